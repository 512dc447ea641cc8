/- Part 14 of what the law's proof needs: rules of the walk, contracts of functions, plain laws. No condition. -/
import Derived.Test.YtkoijdmlehkhbaaGreatDoorQmAWZ13
set_option linter.unusedSimpArgs false
set_option linter.unusedVariables false
set_option linter.unusedSectionVars false
set_option maxRecDepth 20000
set_option maxHeartbeats 4000000
namespace Go.Proofs.YtkoijdmlehkhbaaGreatDoor
open Go Go.J
attribute [local irreducible] At AtQ AtM AtM1 PR Ct Pu Rd Res.blk Res.own Res.ex RVs RV
namespace Qy
open Slot Ti Se St Win
open Fo hiding pt
def repG (u : Sta) (t a b : Int) : List Rep := (prtG u t a b).map Part.r
theorem map_snoc {α β : Type} [Inhabited α] (f : α → β) {l : List α} {j : Nat} (h : j < l.length) : (l.take (j + 1)).map f = (l.take j).map f ++ [f l[j]!] := by
  rw [Ls.take_snoc h, List.map_append]; rfl
theorem Parts_ {m : Mem} (hz : Ra.TZ m) (u : Sta) (t a b : Int) (hs : u.Ok m) (hok : okU u) :
    Ct Tryz.prog 9 #[u.v, .slice none 0 0, .int .i64 t, .int .i64 a, .int .i64 b] m [] (fun v m' B => B = [] ∧ ∃ p c, v = .tuple #[.slice p (repG u t a b).length c, .int .i64 (parE u t a b)] ∧ Sl m' Rep.cells 20 p c (repG u t a b)) := by
  have k0 := fun (m' : Mem) (hm : m.le m') => parts_ (hz.mono hm) u t a b (hs.mono hm) hok
  have hlen : (prtG u t a b).length ≤ 1000000 := by
    unfold prtG
    split
    · exact Nat.le_trans (prtL_len _ _ _) (Nat.le_trans (lv_len u) hs.np)
    · exact Nat.zero_le _
  unfold repG
  clear hz hs hok
  generalize parE u t a b = e at k0 ⊢
  generalize (if e = 0 then (tierG u t a b).1 else 0) = k at k0
  generalize prtG u t a b = O at k0 hlen ⊢
  refine Ct.enterV (by rfl) Tryz.func9 rfl Tryz.ntmps9 rfl (fun w0 Rest => ?_)
  (repeat' (first | refine zss ?_ | refine zs0 ?_ | ((with_reducible first | apply At.c1 | apply At.c0); exact rfl; exact rfl; exact k0 _ zml; exact ztk; kernel_rfl; rintro v' m' B' hm' ⟨p0, c0, rfl, rfl⟩; (try replace sl1 := sl1.mono hm'); (try (have hq0 : hm' = Mem.le_refl _ := rfl; clear hq0 hm'))) | ((with_reducible apply At.box (d := 5)); exact rfl; exact rfl; exact rfl; intro b5) | ((with_reducible apply At.alloc (d := 17)); exact rfl; exact rfl; intro b17) | (refine zsp ?_ ?_ <;> (intro hc; (try simp only [zhcs, reduceCtorEq] at hc); (try (exfalso; first | (first | omega | exact absurd rfl hc) | contradiction | omega | exact absurd rfl hc | exact absurd (by decide) hc))))))
  refine At.own_nil Rep.cells 20 67 ?_
  (refine At.loopk (σ := PS) [14, 28, 29] (fun s F0 => (30, .int .i64 (s.j : Int)) :: (15, .slice s.p ((O.take s.j).map Part.r).length s.c) :: F0) (fun s => m') (fun s => .own Rep.cells 20 67 s.p s.c ((O.take s.j).map Part.r) :: .own Part.cells 21 113 p0 c0 O :: Rest) (fun s => s.j ≤ O.length) (fun s => O.length - s.j) ⟨0, none, 0⟩ (by rfl) ?_ zsubs zml zente ?_)
  · exact Nat.zero_le _
  rintro ⟨j, p, c⟩ hj
  dsimp only at hj ⊢
  by_cases h : j < O.length
  · have hsn := map_snoc Part.r h
    have hle : ((O.take j).map Part.r).length ≤ 1000000 := by rw [List.length_map, List.length_take]; omega
    generalize (O.take j).map Part.r = A at hsn hle ⊢
    clear k0
    (repeat' (first | refine zss ?_ | refine zsO ?_ | ((with_reducible apply At.litF Rep.cells [(O[j]!).r]); exact inferInstance; (iterate 7 exact rfl); intro b' m' hm' sl1; skip) | ((with_reducible apply At.apW (f := Rep.cells) (l := A)); exact rfl; exact rfl; exact (by repeat constructor); exact inferInstance; exact zrdl; (iterate 4 exact rfl); exact zom; exact rfl; intro p2 c2) | ((with_reducible apply At.box (d := 5)); exact rfl; exact rfl; exact rfl; intro b5) | ((with_reducible apply At.alloc (d := 17)); exact rfl; exact rfl; intro b17) | (refine zsp ?_ ?_ <;> (intro hc; (try simp only [zhcs, reduceCtorEq] at hc); (try (exfalso; first | (first | omega | exact absurd rfl hc) | contradiction | omega | exact absurd rfl hc | exact absurd (by decide) hc))))))
    all_goals rw [← hsn]
    all_goals ((with_reducible refine At.reachk ((⟨j + 1, p2, c2⟩ : PS)) ?_ ?_ ?_ ?_); exact zsubs; exact zml; exact zente; exact ⟨h, by dsimp only; omega⟩)
  · obtain rfl : j = O.length := by omega
    rw [List.take_length]
    clear k0
    generalize O.map Part.r = A
    refine At.own_freeze inferInstance (by repeat constructor) fun m2 hm2 sl1 => ?_
    (repeat' (first | refine zss ?_ | refine zsO ?_ | ((with_reducible apply At.box (d := 5)); exact rfl; exact rfl; exact rfl; intro b5) | ((with_reducible apply At.alloc (d := 17)); exact rfl; exact rfl; intro b17) | (refine zsp ?_ ?_ <;> (intro hc; (try simp only [zhcs, reduceCtorEq] at hc); (try (exfalso; first | (first | omega | exact absurd rfl hc) | contradiction | omega | exact absurd rfl hc | exact absurd (by decide) hc))))))
    all_goals ((with_reducible apply At.retV (B := [])); exact rfl; (repeat' (first | exact RVs.nil | (with_reducible apply RVs.cons) | exact rv_tmp (by rfl) | exact rv_cellN (by rfl) (by repeat constructor) (by rfl) (by rfl) (by rfl) | exact rv_cell1 (by rfl) (by repeat constructor) (by rfl) (by rfl))); exact zml; exact zkp; exact ⟨rfl, _, _, rfl, sl1⟩)
/-- the rates of those that have one -/
def ratL (l : List Rep) : List (Nat × Nat) := (l.filter fun r => decide (r.e = 0)).map Rep.r
theorem ratL_snoc {l : List Rep} {j : Nat} (h : j < l.length) : ratL (l.take (j + 1)) = ratL (l.take j) ++ if (l[j]!).e = 0 then [(l[j]!).r] else [] := by
  unfold ratL
  rw [Ls.take_snoc h, List.filter_append, List.map_append]
  congr 1
  generalize l[j]! = x
  by_cases hp : x.e = 0
  · rw [if_pos hp, List.filter_cons, if_pos (decide_eq_true hp)]; rfl
  · rw [if_neg hp, List.filter_cons, if_neg (by rw [decide_eq_false hp]; decide)]; rfl
theorem ratL_len (l : List Rep) : (ratL l).length ≤ l.length := by
  unfold ratL; rw [List.length_map]; exact List.length_filter_le _ _
theorem rates_ {m : Mem} (hz : Ra.TZ m) (p0 : Option Addr) (c0 : Nat) (l : List Rep) (hl : l.length ≤ 1000000) (hb : ∀ r ∈ l, Qu.In2 r.r) (sl0 : Sl m Rep.cells 20 p0 c0 l) :
    Ct Tryz.prog 10 #[.slice p0 l.length c0] m [] (fun v m' B => B = [] ∧ ∃ p c, v = .tuple #[.slice p (ratL l).length c, .bool (decide (Qu.chkL (ratL l) = 0))] ∧ Sl m' Qu.fd 4 p c (ratL l)) := by
  refine Ct.enterV (by rfl) Tryz.func10 rfl Tryz.ntmps10 rfl (fun w0 Rest => ?_)
  (repeat' (first | refine zss ?_ | refine zsM ?_ | ((with_reducible apply At.alloc (d := 6)); exact rfl; exact rfl; intro b6) | (refine zsp ?_ ?_ <;> (intro hc; (try simp only [zhcs, reduceCtorEq] at hc); (try (exfalso; first | (first | omega | exact absurd rfl hc) | contradiction | omega | exact absurd rfl hc | exact absurd (by decide) hc))))))
  refine At.own_nil Qu.fd 4 43 ?_
  (refine At.loopk (σ := PS) [7, 8] (fun s F0 => (9, .int .i64 (s.j : Int)) :: (4, .slice s.p (ratL (l.take s.j)).length s.c) :: F0) (fun s => m) (fun s => .own Qu.fd 4 43 s.p s.c (ratL (l.take s.j)) :: Rest) (fun s => s.j ≤ l.length) (fun s => l.length - s.j) ⟨0, none, 0⟩ (by rfl) ?_ zsubs zml zente ?_)
  · exact Nat.zero_le _
  rintro ⟨j, p, c⟩ hj
  dsimp only at hj ⊢
  by_cases h : j < l.length
  · have hsn := ratL_snoc h
    have hle := ratL_len (l.take j)
    rw [List.length_take] at hle
    generalize ratL (l.take j) = A at hsn hle ⊢
    by_cases h3 : (l[j]!).e = 0
    · rw [if_pos h3] at hsn
      (repeat' (first | refine zss ?_ | refine zsOM ?_ | ((with_reducible apply At.litF Qu.fd [(l[j]!).r]); exact inferInstance; (iterate 7 exact rfl); intro b' m' hm' sl1; (try replace sl0 := sl0.mono hm')) | ((with_reducible apply At.apW (f := Qu.fd) (l := A)); exact rfl; exact rfl; exact (by repeat constructor); exact inferInstance; exact zrdl; (iterate 4 exact rfl); exact zom; exact rfl; intro p2 c2) | ((with_reducible apply At.alloc (d := 6)); exact rfl; exact rfl; intro b6) | (refine zsp ?_ ?_ <;> (intro hc; (try simp only [zhcs, reduceCtorEq] at hc); (try (exfalso; first | (first | omega | exact absurd h3 hc) | contradiction | omega | exact absurd rfl hc | exact absurd (by decide) hc))))))
      all_goals rw [← hsn]
      all_goals ((with_reducible refine At.reachk ((⟨j + 1, p2, c2⟩ : PS)) ?_ ?_ ?_ ?_); exact zsubs; exact zml; exact zente; exact ⟨h, by dsimp only; omega⟩)
    · rw [if_neg h3, List.append_nil] at hsn
      (repeat' (first | refine zss ?_ | refine zsOM ?_ | ((with_reducible apply At.alloc (d := 6)); exact rfl; exact rfl; intro b6) | (refine zsp ?_ ?_ <;> (intro hc; (try simp only [zhcs, reduceCtorEq] at hc); (try (exfalso; first | (first | omega | exact absurd hc h3) | contradiction | omega | exact absurd rfl hc | exact absurd (by decide) hc))))))
      all_goals rw [← hsn]
      all_goals ((with_reducible refine At.reachk ((⟨j + 1, p, c⟩ : PS)) ?_ ?_ ?_ ?_); exact zsubs; exact zml; exact zente; exact ⟨h, by dsimp only; omega⟩)
  · obtain rfl : j = l.length := by omega
    rw [List.take_length]
    have hle := ratL_len l
    have hb2 : ∀ x ∈ ratL l, Qu.In2 x := fun x hx => by
      obtain ⟨r, hr, rfl⟩ := List.mem_map.1 hx
      exact hb r (List.mem_filter.1 hr).1
    generalize ratL l = A at hle hb2 ⊢
    refine At.own_freeze inferInstance (by repeat constructor) fun m2 hm2 sl1 => ?_
    have k0 := fun (m' : Mem) (hm : m2.le m') => Qu.check_ (m := m') ((hz.mono hm2).mono hm) p c A (by omega) hb2 (sl1.mono hm)
    generalize Qu.chkL A = e at k0 ⊢
    (repeat' (first | refine zss ?_ | refine zsM ?_ | ((with_reducible first | apply AtM1.cr | apply AtQ.cr | apply At.cr); exact rfl; exact rfl; exact fun _ hmm => k0 _ hmm; exact ztk; kernel_rfl) | ((with_reducible apply At.alloc (d := 6)); exact rfl; exact rfl; intro b6) | (refine zsp ?_ ?_ <;> (intro hc; (try simp only [zhcs, reduceCtorEq] at hc); (try (exfalso; first | (first | omega | exact absurd rfl hc) | contradiction | omega | exact absurd rfl hc | exact absurd (by decide) hc))))))
    all_goals ((with_reducible apply At.retV (B := [])); exact rfl; (repeat' (first | exact RVs.nil | (with_reducible apply RVs.cons) | exact rv_tmp (by rfl) | exact rv_cellN (by rfl) (by repeat constructor) (by rfl) (by rfl) (by rfl) | exact rv_cell1 (by rfl) (by repeat constructor) (by rfl) (by rfl))); exact zml; exact zkp; exact ⟨rfl, _, _, rfl, sl1⟩)
theorem lt_of_sE {x : Nat} (h : ¬ Wide.sE x ≠ 0) : x < 340282366920938463463374607431768211456 := by
  unfold Wide.sE at h
  by_cases h1 : x < 340282366920938463463374607431768211456
  · exact h1
  · rw [if_neg h1] at h; exact absurd (by decide) h
theorem rte_in (c : Cell) (hX : c.X ≤ 9223372036854775807) : Qu.In2 (rte c).1 := by
  have h0 : Qu.In2 (0, 0) := ⟨(by decide : 0 < 340282366920938463463374607431768211456), (by decide : 0 < 340282366920938463463374607431768211456)⟩
  unfold rte
  by_cases h1 : c.X < 1
  · rw [if_pos h1]; exact h0
  rw [if_neg h1]
  unfold Ra.rat
  by_cases h2 : c.X.toNat = 0
  · rw [if_pos h2]; exact h0
  rw [if_neg h2]
  by_cases h3 : Wide.sE (c.I * 1000) ≠ 0
  · rw [if_pos h3]; exact h0
  rw [if_neg h3]
  unfold Ra.red
  rw [if_neg h2]
  exact ⟨Nat.lt_of_le_of_lt (Nat.div_le_self _ _) (lt_of_sE h3), Nat.lt_of_le_of_lt (Nat.div_le_self _ _) (by omega)⟩
theorem doG_in {m : Mem} {u : Sta} (hs : u.Ok m) (l : List Lab) (t a b : Int) : Qu.In2 (doG u l t a b).1.r := by
  have h0 : Qu.In2 (0, 0) := ⟨(by decide : 0 < 340282366920938463463374607431768211456), (by decide : 0 < 340282366920938463463374607431768211456)⟩
  unfold doG
  split
  · exact h0
  split
  · exact h0
  split
  · exact h0
  · refine rte_in _ ?_
    have := (ok_X (qof_good hs l ((tierG u t a b).1.toNat - 1) a b).1).1
    omega
/-- a reply without events has no rate -/
theorem doG_none {m : Mem} {u : Sta} (hs : u.Ok m) (l : List Lab) (t a b : Int) (h : (doG u l t a b).2 = 0) (hn : (doG u l t a b).1.c.n ≤ 0) : (doG u l t a b).1.e = 12 := by
  unfold doG at h hn ⊢
  split
  · rename_i h1; rw [if_pos h1] at h; exact absurd h h1
  rename_i h1
  rw [if_neg h1] at h hn
  split
  · rename_i h2; rw [if_pos h2] at h; exact absurd h h2
  rename_i h2
  rw [if_neg h2] at h hn
  split
  · rename_i h3; rw [if_pos h3] at h; exact absurd h h3
  rename_i h3
  rw [if_neg h3] at hn
  have := (ok_X (qof_good hs l ((tierG u t a b).1.toNat - 1) a b).1).2 hn
  show (rte _).2 = 12
  unfold rte
  rw [if_pos this]
theorem repG_in {m : Mem} {u : Sta} (hs : u.Ok m) (t a b : Int) : ∀ r ∈ repG u t a b, Qu.In2 r.r := fun r hr => by
  unfold repG prtG at hr
  obtain ⟨p, hp, rfl⟩ := List.mem_map.1 hr
  by_cases h : parE u t a b = 0
  · rw [if_pos h] at hp
    obtain ⟨i, hi, rfl⟩ := List.mem_map.1 hp
    exact doG_in hs _ _ _ _
  · rw [if_neg h] at hp; cases hp
end Qy
end Go.Proofs.YtkoijdmlehkhbaaGreatDoor
namespace Go.Proofs.YtkoijdmlehkhbaaGreatDoor
open Go Go.J
attribute [local irreducible] At AtQ AtM AtM1 PR Ct Pu Rd Res.blk Res.own Res.ex RVs RV
/-- what is watched -/
structure Wat where
  (q : Qy.Ask) (f : Nat × Nat)
namespace Wat
abbrev cells : Wat → List Value := fun w => w.q.cells ++ Qu.fd w.f
abbrev v (w : Wat) : Value := .agg (cells w).toArray
instance : Inhabited Wat := ⟨⟨⟨Lst.nil, 0, 0, 0⟩, (0, 0)⟩⟩
instance : Fl cells 8 := ⟨fun _ => rfl, fun x v h => by
  simp at h
  rcases h with rfl | rfl | rfl | rfl | rfl | rfl | rfl | rfl <;> rfl, by decide⟩
end Wat
namespace Qy
open Slot Ti Se St Win
open Fo hiding pt
instance : Inhabited Sta := ⟨Sta.z⟩
instance : Fl Sta.cells 12 := ⟨fun _ => rfl, fun x v h => by
  simp at h
  rcases h with rfl | rfl | rfl | rfl | rfl | rfl | rfl | rfl | rfl | rfl | rfl | rfl <;> rfl, by decide⟩
/-- whether one rings -/
def oneW (u : Sta) (q : Ask) (f : Nat × Nat) : Bool × Int :=
  if Ra.chk f.1 f.2 ≠ 0 then (false, 2) else if (doG u q.lab.l q.t q.a q.b).2 ≠ 0 then (false, (doG u q.lab.l q.t q.a q.b).2)
  else if (doG u q.lab.l q.t q.a q.b).1.e ≠ 0 then (false, (doG u q.lab.l q.t q.a q.b).1.e)
  else if (Ra.les (doG u q.lab.l q.t q.a q.b).1.r.1 (doG u q.lab.l q.t q.a q.b).1.r.2 f.1 f.2).2 = 0 then (!(Ra.les (doG u q.lab.l q.t q.a q.b).1.r.1 (doG u q.lab.l q.t q.a q.b).1.r.2 f.1 f.2).1, 0)
  else (false, (Ra.les (doG u q.lab.l q.t q.a q.b).1.r.1 (doG u q.lab.l q.t q.a q.b).1.r.2 f.1 f.2).2)
theorem one_w {m : Mem} (hz : Ra.TZ m) (u : Sta) (w : Wat) (hs : u.Ok m) (hok : okU u) (hm : Lb.Mid w.q.lab.l) (hl : w.q.lab.l.length ≤ 1000000000) (hb : Qu.In2 w.f) (sl1 : Sl m Lb.cells 2 w.q.lab.p w.q.lab.c w.q.lab.l) :
    Rd Tryz.prog 15 #[u.v, w.v] m [] (.tuple #[.bool (oneW u w.q w.f).1, .int .i64 (oneW u w.q w.f).2]) := by
  unfold Rd oneW
  have k0 := fun (m' : Mem) (hm : m.le m') => check u (hs.mono hm)
  rw [show chk u = 0 from if_pos hok] at k0
  have k1 := fun (m' : Mem) (hm : m.le m') => Ra.check (m := m') (hz.mono hm) w.f.1 w.f.2 hb.1 hb.2
  have k2 := fun (m' : Mem) (h : m.le m') => do_ (m := m') (hz.mono h) u w.q (hs.mono h) hok hm hl (sl1.mono h)
  have hi := doG_in hs w.q.lab.l w.q.t w.q.a w.q.b
  have k3 := fun (m' : Mem) (h : m.le m') => Ra.lessT (m := m') (hz.mono h) (doG u w.q.lab.l w.q.t w.q.a w.q.b).1.r.1 (doG u w.q.lab.l w.q.t w.q.a w.q.b).1.r.2 w.f.1 w.f.2 hi.1 hi.2 hb.1 hb.2
  clear hz hs hok hm hl hi hb
  generalize Ra.chk w.f.1 w.f.2 = e0 at k1 ⊢
  generalize doG u w.q.lab.l w.q.t w.q.a w.q.b = R at k2 k3 ⊢
  obtain ⟨r, e1⟩ := R
  dsimp only at k2 k3 ⊢
  by_cases h0 : e0 ≠ 0
  · rw [if_pos h0]
    refine Ct.enterV (by rfl) Tryz.func15 rfl Tryz.ntmps15 rfl (fun w0 Rest => ?_)
    (repeat' (first | refine zss ?_ | refine zsM ?_ | ((with_reducible first | apply AtM1.cr | apply AtQ.cr | apply At.cr); exact rfl; exact rfl; exact fun _ hmm => k0 _ hmm; exact ztk; kernel_rfl) | ((with_reducible first | apply AtM1.cr | apply AtQ.cr | apply At.cr); exact rfl; exact rfl; exact fun _ hmm => k1 _ hmm; exact ztk; kernel_rfl) | ((with_reducible apply At.box (d := 2)); exact rfl; exact rfl; exact rfl; intro b2) | ((with_reducible apply At.box (d := 3)); exact rfl; exact rfl; exact rfl; intro b3) | ((with_reducible apply At.alloc (d := 6)); exact rfl; exact rfl; intro b6) | (refine zsp ?_ ?_ <;> (intro hc; (try simp only [zhcs, reduceCtorEq] at hc); (try (exfalso; first | (first | omega | exact absurd rfl hc | exact absurd hc h0) | contradiction | omega | exact absurd rfl hc | exact absurd (by decide) hc))))))
    all_goals ((with_reducible apply At.retV (B := [])); exact rfl; (repeat' (first | exact RVs.nil | (with_reducible apply RVs.cons) | exact rv_tmp (by rfl) | exact rv_cellN (by rfl) (by repeat constructor) (by rfl) (by rfl) (by rfl) | exact rv_cell1 (by rfl) (by repeat constructor) (by rfl) (by rfl))); exact zml; exact zkp; exact ⟨rfl, rfl, rfl⟩)
  rw [if_neg h0]
  obtain rfl : e0 = 0 := by omega
  by_cases h1 : e1 ≠ 0
  · rw [if_pos h1]
    clear h0
    refine Ct.enterV (by rfl) Tryz.func15 rfl Tryz.ntmps15 rfl (fun w0 Rest => ?_)
    (repeat' (first | refine zss ?_ | refine zsM ?_ | ((with_reducible first | apply AtM1.cr | apply AtQ.cr | apply At.cr); exact rfl; exact rfl; exact fun _ hmm => k0 _ hmm; exact ztk; kernel_rfl) | ((with_reducible first | apply AtM1.cr | apply AtQ.cr | apply At.cr); exact rfl; exact rfl; exact fun _ hmm => k1 _ hmm; exact ztk; kernel_rfl) | ((with_reducible first | apply AtM1.cr | apply AtQ.cr | apply At.cr); exact rfl; exact rfl; exact fun _ hmm => k2 _ hmm; exact ztk; kernel_rfl) | ((with_reducible apply At.box (d := 2)); exact rfl; exact rfl; exact rfl; intro b2) | ((with_reducible apply At.box (d := 3)); exact rfl; exact rfl; exact rfl; intro b3) | ((with_reducible apply At.alloc (d := 6)); exact rfl; exact rfl; intro b6) | (refine zsp ?_ ?_ <;> (intro hc; (try simp only [zhcs, reduceCtorEq] at hc); (try (exfalso; first | (first | omega | exact absurd rfl hc | exact absurd hc h1) | contradiction | omega | exact absurd rfl hc | exact absurd (by decide) hc))))))
    all_goals ((with_reducible apply At.retV (B := [])); exact rfl; (repeat' (first | exact RVs.nil | (with_reducible apply RVs.cons) | exact rv_tmp (by rfl) | exact rv_cellN (by rfl) (by repeat constructor) (by rfl) (by rfl) (by rfl) | exact rv_cell1 (by rfl) (by repeat constructor) (by rfl) (by rfl))); exact zml; exact zkp; exact ⟨rfl, rfl, rfl⟩)
  rw [if_neg h1]
  obtain rfl : e1 = 0 := by omega
  by_cases h2 : r.e ≠ 0
  · rw [if_pos h2]
    clear h0 h1
    refine Ct.enterV (by rfl) Tryz.func15 rfl Tryz.ntmps15 rfl (fun w0 Rest => ?_)
    (repeat' (first | refine zss ?_ | refine zsM ?_ | ((with_reducible first | apply AtM1.cr | apply AtQ.cr | apply At.cr); exact rfl; exact rfl; exact fun _ hmm => k0 _ hmm; exact ztk; kernel_rfl) | ((with_reducible first | apply AtM1.cr | apply AtQ.cr | apply At.cr); exact rfl; exact rfl; exact fun _ hmm => k1 _ hmm; exact ztk; kernel_rfl) | ((with_reducible first | apply AtM1.cr | apply AtQ.cr | apply At.cr); exact rfl; exact rfl; exact fun _ hmm => k2 _ hmm; exact ztk; kernel_rfl) | ((with_reducible apply At.box (d := 2)); exact rfl; exact rfl; exact rfl; intro b2) | ((with_reducible apply At.box (d := 3)); exact rfl; exact rfl; exact rfl; intro b3) | ((with_reducible apply At.alloc (d := 6)); exact rfl; exact rfl; intro b6) | (refine zsp ?_ ?_ <;> (intro hc; (try simp only [zhcs, reduceCtorEq] at hc); (try (exfalso; first | (first | omega | exact absurd rfl hc | exact absurd hc h2) | contradiction | omega | exact absurd rfl hc | exact absurd (by decide) hc))))))
    all_goals ((with_reducible apply At.retV (B := [])); exact rfl; (repeat' (first | exact RVs.nil | (with_reducible apply RVs.cons) | exact rv_tmp (by rfl) | exact rv_cellN (by rfl) (by repeat constructor) (by rfl) (by rfl) (by rfl) | exact rv_cell1 (by rfl) (by repeat constructor) (by rfl) (by rfl))); exact zml; exact zkp; exact ⟨rfl, rfl, rfl⟩)
  rw [if_neg h2]
  have h2' : r.e = 0 := by omega
  generalize Ra.les r.r.1 r.r.2 w.f.1 w.f.2 = L at k3 ⊢
  obtain ⟨g, e3⟩ := L
  dsimp only at k3 ⊢
  clear h0 h1
  by_cases h3 : e3 = 0
  · rw [if_pos h3]
    subst h3
    refine Ct.enterV (by rfl) Tryz.func15 rfl Tryz.ntmps15 rfl (fun w0 Rest => ?_)
    (repeat' (first | refine zss ?_ | refine zsM ?_ | ((with_reducible first | apply AtM1.cr | apply AtQ.cr | apply At.cr); exact rfl; exact rfl; exact fun _ hmm => k0 _ hmm; exact ztk; kernel_rfl) | ((with_reducible first | apply AtM1.cr | apply AtQ.cr | apply At.cr); exact rfl; exact rfl; exact fun _ hmm => k1 _ hmm; exact ztk; kernel_rfl) | ((with_reducible first | apply AtM1.cr | apply AtQ.cr | apply At.cr); exact rfl; exact rfl; exact fun _ hmm => k2 _ hmm; exact ztk; kernel_rfl) | ((with_reducible first | apply AtM1.cr | apply AtQ.cr | apply At.cr); exact rfl; exact rfl; exact fun _ hmm => k3 _ zml; exact ztk; kernel_rfl) | ((with_reducible apply At.box (d := 2)); exact rfl; exact rfl; exact rfl; intro b2) | ((with_reducible apply At.box (d := 3)); exact rfl; exact rfl; exact rfl; intro b3) | ((with_reducible apply At.alloc (d := 6)); exact rfl; exact rfl; intro b6) | (refine zsp ?_ ?_ <;> (intro hc; (try simp only [zhcs, reduceCtorEq] at hc); (try (exfalso; first | (first | omega | exact absurd rfl hc | exact absurd h2' hc) | contradiction | omega | exact absurd rfl hc | exact absurd (by decide) hc))))))
    all_goals ((with_reducible apply At.retV (B := [])); exact rfl; (repeat' (first | exact RVs.nil | (with_reducible apply RVs.cons) | exact rv_tmp (by rfl) | exact rv_cellN (by rfl) (by repeat constructor) (by rfl) (by rfl) (by rfl) | exact rv_cell1 (by rfl) (by repeat constructor) (by rfl) (by rfl))); exact zml; exact zkp; exact ⟨rfl, rfl, rfl⟩)
  · rw [if_neg h3]
    refine Ct.enterV (by rfl) Tryz.func15 rfl Tryz.ntmps15 rfl (fun w0 Rest => ?_)
    (repeat' (first | refine zss ?_ | refine zsM ?_ | ((with_reducible first | apply AtM1.cr | apply AtQ.cr | apply At.cr); exact rfl; exact rfl; exact fun _ hmm => k0 _ hmm; exact ztk; kernel_rfl) | ((with_reducible first | apply AtM1.cr | apply AtQ.cr | apply At.cr); exact rfl; exact rfl; exact fun _ hmm => k1 _ hmm; exact ztk; kernel_rfl) | ((with_reducible first | apply AtM1.cr | apply AtQ.cr | apply At.cr); exact rfl; exact rfl; exact fun _ hmm => k2 _ hmm; exact ztk; kernel_rfl) | ((with_reducible first | apply AtM1.cr | apply AtQ.cr | apply At.cr); exact rfl; exact rfl; exact fun _ hmm => k3 _ zml; exact ztk; kernel_rfl) | ((with_reducible apply At.box (d := 2)); exact rfl; exact rfl; exact rfl; intro b2) | ((with_reducible apply At.box (d := 3)); exact rfl; exact rfl; exact rfl; intro b3) | ((with_reducible apply At.alloc (d := 6)); exact rfl; exact rfl; intro b6) | (refine zsp ?_ ?_ <;> (intro hc; (try simp only [zhcs, reduceCtorEq] at hc); (try (exfalso; first | (first | omega | exact absurd rfl hc | exact absurd h2' hc | exact absurd hc h3) | contradiction | omega | exact absurd rfl hc | exact absurd (by decide) hc))))))
    all_goals ((with_reducible apply At.retV (B := [])); exact rfl; (repeat' (first | exact RVs.nil | (with_reducible apply RVs.cons) | exact rv_tmp (by rfl) | exact rv_cellN (by rfl) (by repeat constructor) (by rfl) (by rfl) (by rfl) | exact rv_cell1 (by rfl) (by repeat constructor) (by rfl) (by rfl))); exact zml; exact zkp; exact ⟨rfl, rfl, rfl⟩)
/-- what is watched may be asked -/
structure Wat.Ok (m : Mem) (w : Wat) : Prop where
  ml : Lb.Mid w.q.lab.l
  nl : w.q.lab.l.length ≤ 1000000000
  bf : Qu.In2 w.f
  sl : Sl m Lb.cells 2 w.q.lab.p w.q.lab.c w.q.lab.l
abbrev sbk (b : Nat) (u : Sta) : Res := .blk b 28 u.cells
theorem in1 {m : Mem} (hz : Ra.TZ m) (b : Nat) (u : Sta) (w : Wat) (g : Bool) (hg : (oneW u w.q w.f).1 = g) (hs : u.Ok m) (hok : okU u) (hw : Wat.Ok m w) :
    Ct Tryz.prog 126 #[w.v, .pointer (some ⟨b, 0, none⟩)] m [sbk b u] (fun v m' B => v = .bool g ∧ m = m' ∧ B = [sbk b u]) := by
  have k0 := fun (m' : Mem) (h : m.le m') => one_w (m := m') (hz.mono h) u w (hs.mono h) hok hw.ml hw.nl hw.bf (hw.sl.mono h)
  rw [hg] at k0
  clear hz hs hok hw hg
  generalize (oneW u w.q w.f).2 = e at k0
  refine Ct.enterV (by rfl) Tryz.func126 rfl Tryz.ntmps126 rfl (fun w0 Rest => ?_)
  (repeat' (first | refine zss ?_ | refine zs0 ?_ | ((with_reducible first | apply AtM1.cr | apply AtQ.cr | apply At.cr); exact rfl; exact rfl; exact fun _ hmm => k0 _ hmm; exact ztk; kernel_rfl) | ((with_reducible apply At.box (d := 2)); exact rfl; exact rfl; exact rfl; intro b2) | (refine zsp ?_ ?_ <;> (intro hc; (try simp only [zhcs, reduceCtorEq] at hc); (try (exfalso; first | contradiction | omega | exact absurd rfl hc | exact absurd (by decide) hc))))))
  all_goals ((with_reducible apply At.retB1 (B := [sbk b u])); exact rfl; exact rfl; exact zml; exact zkp; exact ⟨rfl, rfl, rfl⟩)
theorem in_ {m : Mem} (u : Sta) : Ct Tryz.prog 70 #[u.v] m [] (fun v m' B => m = m' ∧ ∃ b, v = .func (.func 126) #[] #[.pointer (some ⟨b, 0, none⟩)] ∧ B = [sbk b u]) := by
  refine Ct.enterV (by rfl) Tryz.func70 rfl Tryz.ntmps70 rfl (fun w0 Rest => ?_)
  (repeat' (first | refine zss ?_ | refine zs0 ?_ | ((with_reducible apply At.box (d := 1)); exact rfl; exact rfl; exact rfl; intro b1) | (refine zsp ?_ ?_ <;> (intro hc; (try simp only [zhcs, reduceCtorEq] at hc); (try (exfalso; first | contradiction | omega | exact absurd rfl hc | exact absurd (by decide) hc))))))
  all_goals ((with_reducible apply At.retB1 (B := [sbk b1 u])); exact rfl; exact rfl; exact zml; exact zkp; exact ⟨rfl, b1, rfl, rfl⟩)
/-- the places of those of which something holds -/
def selI (q : Nat → Bool) (n : Nat) : List Int := ((List.range n).filter q).map Int.ofNat
theorem selI_succ (q : Nat → Bool) (n : Nat) : selI q (n + 1) = if q n then selI q n ++ [(n : Int)] else selI q n := by
  unfold selI
  rw [List.range_succ, List.filter_append, List.map_append]
  cases h : q n
  · rw [List.filter_cons, if_neg (by rw [h]; decide), if_neg (by decide)]; simp
  · rw [List.filter_cons, if_pos h, if_pos rfl]; simp
theorem selI_len (q : Nat → Bool) (n : Nat) : (selI q n).length ≤ n := by
  unfold selI
  rw [List.length_map]
  have := List.length_filter_le q (List.range n)
  rwa [List.length_range] at this
theorem places_ {m : Mem} (hz : Ra.TZ m) (b : Nat) (u : Sta) (p0 : Option Addr) (c0 : Nat) (l : List Wat) (q : Nat → Bool) (hl : l.length ≤ 1000000) (hq : ∀ i, i < l.length → (oneW u (l[i]!).q (l[i]!).f).1 = q i) (hs : u.Ok m) (hok : okU u) (hw : ∀ w ∈ l, Wat.Ok m w) (sl0 : Sl m Wat.cells 8 p0 c0 l) :
    Ct Tryz.prog 69 #[.slice p0 l.length c0, .func (.func 126) #[] #[.pointer (some ⟨b, 0, none⟩)]] m [sbk b u] (fun v m' B => B = [sbk b u] ∧ ∃ p c, v = .slice p (selI q l.length).length c) := by
  refine Ct.enterV (by rfl) Tryz.func69 rfl Tryz.ntmps69 rfl (fun w0 Rest => ?_)
  (repeat' (first | refine zss ?_ | refine zsM ?_ | ((with_reducible apply At.alloc (d := 7)); exact rfl; exact rfl; intro b7) | (refine zsp ?_ ?_ <;> (intro hc; (try simp only [zhcs, reduceCtorEq] at hc); (try (exfalso; first | (first | omega | exact absurd rfl hc) | contradiction | omega | exact absurd rfl hc | exact absurd (by decide) hc))))))
  refine At.own_nil Ls.fI 1 3 ?_
  (refine At.loopk (σ := PS) [1, 8, 9] (fun s F0 => (10, .int .i64 (s.j : Int)) :: (5, .slice s.p (selI q s.j).length s.c) :: F0) (fun s => m) (fun s => .own Ls.fI 1 3 s.p s.c (selI q s.j) :: sbk b u :: Rest) (fun s => s.j ≤ l.length) (fun s => l.length - s.j) ⟨0, none, 0⟩ (by rfl) ?_ zsubs zml zente ?_)
  · exact Nat.zero_le _
  rintro ⟨j, p, c⟩ hj
  dsimp only at hj ⊢
  by_cases h : j < l.length
  · have hle := selI_len q j
    have hsn := selI_succ q j
    have hwm := hw _ (Ls.mem! h)
    have hqj := hq j h
    have k0 := fun (m' : Mem) (h : m.le m') => in1 (m := m') (hz.mono h) b u l[j]! (q j) hqj (hs.mono h) hok ⟨hwm.ml, hwm.nl, hwm.bf, hwm.sl.mono h⟩
    generalize q j = g at k0 hsn
    generalize selI q j = L at hle hsn ⊢
    clear hq hw hwm hz hs hok hqj
    cases g
    · rw [if_neg (by decide)] at hsn
      (repeat' (first | refine zss ?_ | refine zsOM ?_ | ((with_reducible apply At.callf); exact rfl; kernel_rfl; exact rfl; exact rfl; exact k0 _ zml; exact ztk; rintro v' m' B' hm' ⟨rfl, rfl, rfl⟩; (try replace sl0 := sl0.mono hm'); (try replace sl1 := sl1.mono hm')) | ((with_reducible apply At.alloc (d := 7)); exact rfl; exact rfl; intro b7) | (refine zsp ?_ ?_ <;> (intro hc; (try simp only [zhcs, reduceCtorEq] at hc); (try (exfalso; first | (first | omega | exact absurd rfl hc) | contradiction | omega | exact absurd rfl hc | exact absurd (by decide) hc))))))
      all_goals rw [← hsn]
      all_goals ((with_reducible refine At.reachk ((⟨j + 1, p, c⟩ : PS)) ?_ ?_ ?_ ?_); exact zsubs; exact zml; exact zente; exact ⟨h, by dsimp only; omega⟩)
    · rw [if_pos rfl] at hsn
      (repeat' (first | refine zss ?_ | refine zsOM ?_ | ((with_reducible apply At.callf); exact rfl; kernel_rfl; exact rfl; exact rfl; exact k0 _ zml; exact ztk; rintro v' m' B' hm' ⟨rfl, rfl, rfl⟩; (try replace sl0 := sl0.mono hm'); (try replace sl1 := sl1.mono hm')) | ((with_reducible apply At.litF Ls.fI [(j : Int)]); exact inferInstance; (iterate 7 exact rfl); intro b' m' hm' sl1; (try replace sl0 := sl0.mono hm')) | ((with_reducible apply At.apW (f := Ls.fI) (l := L)); exact rfl; exact rfl; exact (by repeat constructor); exact inferInstance; exact zrdl; (iterate 4 exact rfl); exact zom; exact rfl; intro p2 c2) | ((with_reducible apply At.alloc (d := 7)); exact rfl; exact rfl; intro b7) | (refine zsp ?_ ?_ <;> (intro hc; (try simp only [zhcs, reduceCtorEq] at hc); (try (exfalso; first | (first | omega | exact absurd rfl hc) | contradiction | omega | exact absurd rfl hc | exact absurd (by decide) hc))))))
      all_goals rw [← hsn]
      all_goals ((with_reducible refine At.reachk ((⟨j + 1, p2, c2⟩ : PS)) ?_ ?_ ?_ ?_); exact zsubs; exact zml; exact zente; exact ⟨h, by dsimp only; omega⟩)
  · obtain rfl : j = l.length := by omega
    generalize selI q l.length = L
    (repeat' (first | refine zss ?_ | refine zsO ?_ | ((with_reducible apply At.alloc (d := 7)); exact rfl; exact rfl; intro b7) | (refine zsp ?_ ?_ <;> (intro hc; (try simp only [zhcs, reduceCtorEq] at hc); (try (exfalso; first | (first | omega | exact absurd rfl hc) | contradiction | omega | exact absurd rfl hc | exact absurd (by decide) hc))))))
    all_goals ((with_reducible apply At.retB1 (B := [sbk b u])); exact rfl; exact rfl; exact zml; exact zkp; exact ⟨rfl, _, _, rfl⟩)
theorem may_w {m : Mem} (u : Sta) (p0 : Option Addr) (c0 : Nat) (n : Nat) (hn : n ≤ 256) (q0 : Option Addr) (d0 : Nat) (hs : u.Ok m) (hok : okU u) (sl0 : Sl m Sta.cells 12 q0 d0 [u]) :
    Rd Tryz.prog 68 #[.slice p0 n c0, .slice q0 1 d0] m [] (.int .i64 0) := by
  unfold Rd
  have k0 := fun (m' : Mem) (hm : m.le m') => check u (hs.mono hm)
  rw [show chk u = 0 from if_pos hok] at k0
  clear hs hok
  refine Ct.enterV (by rfl) Tryz.func68 rfl Tryz.ntmps68 rfl (fun w0 Rest => ?_)
  (repeat' (first | refine zss ?_ | refine zsM ?_ | ((with_reducible apply At.alloc (d := 6)); exact rfl; exact rfl; intro b6) | (refine zsp ?_ ?_ <;> (intro hc; (try simp only [zhcs, reduceCtorEq] at hc); (try (exfalso; first | (first | omega | exact absurd rfl hc) | contradiction | omega | exact absurd rfl hc | exact absurd (by decide) hc))))))
  (refine At.loopk (σ := Nat) [11, 12] (fun s F0 => (13, .int .i64 (s : Int)) :: F0) (fun s => m) (fun s => Rest) (fun s => s ≤ 1) (fun s => 1 - s) 0 (by rfl) ?_ zsubs zml zente ?_)
  · exact Nat.zero_le _
  intro j hj
  rcases (show j = 0 ∨ j = 1 by omega) with rfl | rfl
  · (repeat' (first | refine zss ?_ | refine zsM ?_ | ((with_reducible first | apply AtM1.cr | apply AtQ.cr | apply At.cr); exact rfl; exact rfl; exact fun _ hmm => k0 _ hmm; exact ztk; kernel_rfl) | ((with_reducible apply At.alloc (d := 6)); exact rfl; exact rfl; intro b6) | (refine zsp ?_ ?_ <;> (intro hc; (try simp only [zhcs, reduceCtorEq] at hc); (try (exfalso; first | (first | omega | exact absurd rfl hc) | contradiction | omega | exact absurd rfl hc | exact absurd (by decide) hc))))))
    all_goals ((with_reducible refine At.reachk (1) ?_ ?_ ?_ ?_); exact zsubs; exact zml; exact zente; exact ⟨Nat.le_refl _, by decide⟩)
  · (repeat' (first | refine zss ?_ | refine zsM ?_ | ((with_reducible apply At.alloc (d := 6)); exact rfl; exact rfl; intro b6) | (refine zsp ?_ ?_ <;> (intro hc; (try simp only [zhcs, reduceCtorEq] at hc); (try (exfalso; first | (first | omega | exact absurd rfl hc) | contradiction | omega | exact absurd rfl hc | exact absurd (by decide) hc))))))
    all_goals ((with_reducible apply At.retB1 (B := [])); exact rfl; exact rfl; exact zml; exact zkp; exact ⟨rfl, rfl, rfl⟩)
theorem rings_ {m : Mem} (hz : Ra.TZ m) (u : Sta) (p0 : Option Addr) (c0 : Nat) (l : List Wat) (q : Nat → Bool) (hl : l.length ≤ 256) (hq : ∀ i, i < l.length → (oneW u (l[i]!).q (l[i]!).f).1 = q i) (hs : u.Ok m) (hok : okU u) (hw : ∀ w ∈ l, Wat.Ok m w) (sl0 : Sl m Wat.cells 8 p0 c0 l) :
    Ct Tryz.prog 30 #[u.v, .slice p0 l.length c0] m [] (fun v m' B => B = [] ∧ ∃ p c, v = .tuple #[.slice p (selI q l.length).length c, .int .i64 0]) := by
  have k0 := fun (m' : Mem) (h : m.le m') (q0 : Option Addr) (d0 : Nat) (sl0 : _) => may_w (m := m') u p0 c0 l.length hl q0 d0 (hs.mono h) hok sl0
  have k1 := fun (m' : Mem) => in_ (m := m') u
  have k2 := fun (m' : Mem) (h : m.le m') (b : Nat) => places_ (m := m') (hz.mono h) b u p0 c0 l q (by omega) hq (hs.mono h) hok (fun w hx => ⟨(hw w hx).ml, (hw w hx).nl, (hw w hx).bf, (hw w hx).sl.mono h⟩) (sl0.mono h)
  clear hq hw hz
  refine Ct.enterV (by rfl) Tryz.func30 rfl Tryz.ntmps30 rfl (fun w0 Rest => ?_)
  (repeat' (first | refine zss ?_ | refine zsM ?_ | ((with_reducible apply At.litF Sta.cells [u]); exact inferInstance; (iterate 7 exact rfl); intro b' m' hm' sl1; (try replace sl0 := sl0.mono hm')) | ((with_reducible first | apply AtM1.cr | apply AtQ.cr | apply At.cr); exact rfl; exact rfl; exact fun _ hmm => k0 _ zml _ _ (sl1.mono hmm); exact ztk; kernel_rfl) | ((with_reducible first | apply At.c1 | apply At.c0); exact rfl; exact rfl; exact k1 _; exact ztk; kernel_rfl; rintro v' m' B' hm' ⟨rfl, b, rfl, rfl⟩; (try replace sl0 := sl0.mono hm'); (try replace sl1 := sl1.mono hm'); (try (have hq0 : hm' = Mem.le_refl _ := rfl; clear hq0 hm'))) | ((with_reducible first | apply At.c1 | apply At.c0); exact rfl; exact rfl; exact k2 _ zml _; exact ztk; kernel_rfl; rintro v' m' B' hm' ⟨rfl, p, c, rfl⟩; (try replace sl0 := sl0.mono hm'); (try replace sl1 := sl1.mono hm'); (try (have hq0 : hm' = Mem.le_refl _ := rfl; clear hq0 hm'))) | ((with_reducible apply At.box (d := 2)); exact rfl; exact rfl; exact rfl; intro b2) | (refine zsp ?_ ?_ <;> (intro hc; (try simp only [zhcs, reduceCtorEq] at hc); (try (exfalso; first | (first | omega | exact absurd rfl hc) | contradiction | omega | exact absurd rfl hc | exact absurd (by decide) hc))))))
  all_goals ((with_reducible apply At.retV (B := [])); exact rfl; (repeat' (first | exact RVs.nil | (with_reducible apply RVs.cons) | exact rv_tmp (by rfl) | exact rv_cellN (by rfl) (by repeat constructor) (by rfl) (by rfl) (by rfl) | exact rv_cell1 (by rfl) (by repeat constructor) (by rfl) (by rfl))); exact zml; exact zkp; exact ⟨rfl, p, c, rfl⟩)
end Qy
end Go.Proofs.YtkoijdmlehkhbaaGreatDoor
namespace Go.Proofs.YtkoijdmlehkhbaaGreatDoor
open Go Go.J
attribute [local irreducible] At AtQ AtM AtM1 PR Ct Pu Rd Res.blk Res.own Res.ex RVs RV
namespace Mrg
open Wide Ev
theorem check {m : Mem} (p : Option Addr) (c : Nat) (l : List Ev) (hl : l.length ≤ 1000000) (sl0 : Sl m cells 4 p c l) :
    Rd Tryz.prog 157 #[.slice p l.length c] m [] (.int .i64 (chk l)) := by
  unfold Rd
  refine Ct.enterV (by rfl) Tryz.func157 rfl Tryz.ntmps157 rfl (fun w0 Rest => ?_)
  (repeat' (first | refine zss ?_ | refine zsM ?_ | ((with_reducible apply At.alloc (d := 4)); exact rfl; exact rfl; intro b4) | (refine zsp ?_ ?_ <;> (intro hc; (try simp only [zhcs, reduceCtorEq] at hc); (try (exfalso; first | contradiction | omega | exact absurd rfl hc | exact absurd (by decide) hc))))))
  (refine At.loopk (σ := Nat) [0, 7, 8] (fun s F0 => (9, .int .i64 (s : Int)) :: F0) (fun s => m) (fun s => Rest) (fun s => s ≤ l.length ∧ ∀ i, i < s → (l[i]!).ok) (fun s => l.length - s) 0 (by rfl) ?_ zsubs zml zente ?_)
  · exact ⟨Nat.zero_le _, fun i h => absurd h (Nat.not_lt_zero i)⟩
  rintro s ⟨hs, ha⟩
  by_cases h : s < l.length
  · have hk := Ev.check (l[s]!)
    by_cases ho : (l[s]!).ok
    · rw [show (l[s]!).chk = 0 from if_pos ho] at hk
      have hn : ∀ i, i < s + 1 → (l[i]!).ok := fun i hi => by
        by_cases e : i = s
        · subst e; exact ho
        · exact ha i (by omega)
      (repeat' (first | refine zss ?_ | refine zsM ?_ | ((with_reducible first | apply AtM1.callp | apply AtQ.callp | apply At.callp); kernel_rfl; exact rfl; exact rfl; exact hk) | ((with_reducible apply At.alloc (d := 4)); exact rfl; exact rfl; intro b4) | (refine zsp ?_ ?_ <;> (intro hc; (try simp only [zhcs, reduceCtorEq] at hc); (try (exfalso; first | omega | contradiction | omega | exact absurd rfl hc | exact absurd (by decide) hc))))))
      all_goals ((with_reducible refine At.reachk ((s + 1)) ?_ ?_ ?_ ?_); exact zsubs; exact zml; exact zente; exact ⟨⟨h, hn⟩, by omega⟩)
    · rw [show (l[s]!).chk = 2 from if_neg ho] at hk
      rw [show chk l = 2 from if_neg fun hh => ho (hh s h)]
      (repeat' (first | refine zss ?_ | refine zsM ?_ | ((with_reducible first | apply AtM1.callp | apply AtQ.callp | apply At.callp); kernel_rfl; exact rfl; exact rfl; exact hk) | ((with_reducible apply At.alloc (d := 4)); exact rfl; exact rfl; intro b4) | (refine zsp ?_ ?_ <;> (intro hc; (try simp only [zhcs, reduceCtorEq] at hc); (try (exfalso; first | omega | contradiction | omega | exact absurd rfl hc | exact absurd (by decide) hc))))))
      all_goals ((with_reducible apply At.retB1 (B := [])); exact rfl; exact rfl; exact zml; exact zkp; exact ⟨rfl, rfl, rfl⟩)
  · have hall : aok l := fun i hi => ha i (by omega)
    (repeat' (first | refine zss ?_ | refine zsM ?_ | ((with_reducible apply At.alloc (d := 4)); exact rfl; exact rfl; intro b4) | (refine zsp ?_ ?_ <;> (intro hc; (try simp only [zhcs, reduceCtorEq] at hc); (try (exfalso; first | omega | contradiction | omega | exact absurd rfl hc | exact absurd (by decide) hc))))))
    (refine At.loopk (σ := Nat) [0] (fun s F0 => (6, .int .i64 (s : Int)) :: F0) (fun s => m) (fun s => Rest) (fun s => 1 ≤ s ∧ s ≤ max 1 l.length ∧ ∀ i, i + 1 < s → (l[i]!).T < (l[i + 1]!).T) (fun s => l.length - s) 1 (by rfl) ?_ zsubs zml zente ?_)
    · exact ⟨Nat.le_refl _, Nat.le_max_left _ _, fun i h => absurd h (by omega)⟩
    rintro k ⟨k1, k2, k3⟩
    by_cases h2 : k < l.length
    · obtain ⟨j, rfl⟩ : ∃ j, k = j + 1 := ⟨k - 1, by omega⟩
      have hw : IntKind.wrap .i64 (((j + 1 : Nat) : Int) - 1) = (j : Int) := by rw [show (((j + 1 : Nat) : Int) - 1) = (j : Int) by omega]; exact IntWalk.i64_in _ (by omega)
      have hf := Ev.follow (l[j]!) (l[j + 1]!)
      rw [show fol (l[j]!) (l[j + 1]!) = decide ((l[j]!).T < (l[j + 1]!).T) by unfold fol; rw [decide_eq_true (show two (l[j]!) (l[j + 1]!) from ⟨hall j (by omega), hall (j + 1) h2⟩), Bool.true_and]] at hf
      by_cases hlt : (l[j]!).T < (l[j + 1]!).T
      · have hn : ∀ i, i + 1 < j + 2 → (l[i]!).T < (l[i + 1]!).T := fun i hi => by
          by_cases e : i = j
          · subst e; exact hlt
          · exact k3 i (by omega)
        rw [decide_eq_true hlt] at hf
        (repeat' (first | refine zss ?_ | ((first | (with_reducible first | apply At.val | apply AtQ.val)); (exact pr_sub (by rfl) (by rfl) hw); exact rfl) | refine zsM ?_ | ((with_reducible first | apply AtM1.callp | apply AtQ.callp | apply At.callp); kernel_rfl; exact rfl; exact rfl; exact hf) | ((with_reducible apply At.alloc (d := 4)); exact rfl; exact rfl; intro b4) | (refine zsp ?_ ?_ <;> (intro hc; (try simp only [zhcs, reduceCtorEq] at hc); (try (exfalso; first | omega | contradiction | omega | exact absurd rfl hc | exact absurd (by decide) hc))))))
        all_goals ((with_reducible refine At.reachk ((j + 2)) ?_ ?_ ?_ ?_); exact zsubs; exact zml; exact zente; exact ⟨⟨by omega, by omega, hn⟩, by omega⟩)
      · rw [decide_eq_false hlt] at hf
        rw [show chk l = 9 by unfold chk; rw [if_pos hall, if_neg fun hh => hlt (hh j (by omega))]]
        (repeat' (first | refine zss ?_ | ((first | (with_reducible first | apply At.val | apply AtQ.val)); (exact pr_sub (by rfl) (by rfl) hw); exact rfl) | refine zsM ?_ | ((with_reducible first | apply AtM1.callp | apply AtQ.callp | apply At.callp); kernel_rfl; exact rfl; exact rfl; exact hf) | ((with_reducible apply At.alloc (d := 4)); exact rfl; exact rfl; intro b4) | (refine zsp ?_ ?_ <;> (intro hc; (try simp only [zhcs, reduceCtorEq] at hc); (try (exfalso; first | omega | contradiction | omega | exact absurd rfl hc | exact absurd (by decide) hc))))))
        all_goals ((with_reducible apply At.retB1 (B := [])); exact rfl; exact rfl; exact zml; exact zkp; exact ⟨rfl, rfl, rfl⟩)
    · rw [show chk l = 0 by unfold chk; rw [if_pos hall, if_pos (show asc l from fun i hi => k3 i (by omega))]]
      (repeat' (first | refine zss ?_ | refine zsM ?_ | ((with_reducible apply At.alloc (d := 4)); exact rfl; exact rfl; intro b4) | (refine zsp ?_ ?_ <;> (intro hc; (try simp only [zhcs, reduceCtorEq] at hc); (try (exfalso; first | omega | contradiction | omega | exact absurd rfl hc | exact absurd (by decide) hc))))))
      all_goals ((with_reducible apply At.retB1 (B := [])); exact rfl; exact rfl; exact zml; exact zkp; exact ⟨rfl, rfl, rfl⟩)
end Mrg
end Go.Proofs.YtkoijdmlehkhbaaGreatDoor
namespace Go.Proofs.YtkoijdmlehkhbaaGreatDoor
open Go Go.J
attribute [local irreducible] At AtQ AtM AtM1 PR Ct Pu Rd Res.blk Res.own Res.ex RVs RV
namespace Mrg
open Wide Ev
/-- where the first event of a time stands, from a place on -/
def ixF (l : List Ev) (t : Int) : Nat → Nat → Int
  | _, 0 => -1
  | i, k + 1 => if (l[i]!).T = t then (i : Int) else ixF l t (i + 1) k
def ix (l : List Ev) (t : Int) : Int := ixF l t 0 l.length
theorem ixF_spec (l : List Ev) (t : Int) : ∀ (k i : Nat), i + k = l.length → (ixF l t i k = -1 ∧ ∀ j, i ≤ j → j < l.length → (l[j]!).T ≠ t) ∨ (∃ j : Nat, ixF l t i k = (j : Int) ∧ i ≤ j ∧ j < l.length ∧ (l[j]!).T = t)
  | 0, i, h => .inl ⟨rfl, fun j h1 h2 => by omega⟩
  | k + 1, i, h => by
    unfold ixF
    by_cases ht : (l[i]!).T = t
    · rw [if_pos ht]; exact .inr ⟨i, rfl, Nat.le_refl _, by omega, ht⟩
    · rw [if_neg ht]
      rcases ixF_spec l t k (i + 1) (by omega) with ⟨h1, h2⟩ | ⟨j, h1, h2, h3, h4⟩
      · refine .inl ⟨h1, fun j hj hj2 => ?_⟩
        by_cases e : j = i
        · subst e; exact ht
        · exact h2 j (by omega) hj2
      · exact .inr ⟨j, h1, by omega, h3, h4⟩
theorem ix_spec (l : List Ev) (t : Int) : (ix l t = -1 ∧ ∀ j, j < l.length → (l[j]!).T ≠ t) ∨ (∃ j : Nat, ix l t = (j : Int) ∧ j < l.length ∧ (l[j]!).T = t) := by
  rcases ixF_spec l t l.length 0 (by omega) with ⟨h1, h2⟩ | ⟨j, h1, _, h3, h4⟩
  · exact .inl ⟨h1, fun j hj => h2 j (Nat.zero_le _) hj⟩
  · exact .inr ⟨j, h1, h3, h4⟩
/-- an event of the one stands in the other one, as another one -/
def clash (b : List Ev) (e : Ev) : Prop := ∃ j : Nat, ix b e.T = (j : Int) ∧ b[j]! ≠ e
def fits (a b : List Ev) : Prop := ∀ i, i < a.length → ¬ clash b (a[i]!)
open Classical in
noncomputable def may (a b : List Ev) : Int := if chk a ≠ 0 then chk a else if chk b ≠ 0 then chk b else if fits a b then 0 else 16
end Mrg
end Go.Proofs.YtkoijdmlehkhbaaGreatDoor
namespace Go.Proofs.YtkoijdmlehkhbaaGreatDoor
open Go Go.J
attribute [local irreducible] At AtQ AtM AtM1 PR Ct Pu Rd Res.blk Res.own Res.ex RVs RV
namespace Mrg
open Wide Ev
open Classical in
/-- a list and an error: the list, if there is none -/
noncomputable def out (a b : List Ev) (l : List Ev) : List Ev := if may a b = 0 then l else []
end Mrg
end Go.Proofs.YtkoijdmlehkhbaaGreatDoor
namespace Go.Proofs.YtkoijdmlehkhbaaGreatDoor
open Go Go.J
attribute [local irreducible] At AtQ AtM AtM1 PR Ct Pu Rd Res.blk Res.own Res.ex RVs RV
namespace Mrg
open Wide Ev
def posF (l : List Ev) (t : Int) : Nat → Nat → Nat
  | i, 0 => i
  | i, k + 1 => if (l[i]!).T < t then posF l t (i + 1) k else i
def pos (l : List Ev) (t : Int) : Nat := posF l t 0 l.length
theorem posF_le (l : List Ev) (t : Int) : ∀ (k i : Nat), posF l t i k ≤ i + k
  | 0, i => Nat.le_refl _
  | k + 1, i => by
    unfold posF
    split
    · have := posF_le l t k (i + 1); omega
    · omega
def ins (l : List Ev) (e : Ev) : List Ev := l.take (pos l e.T) ++ ([e] ++ l.drop (pos l e.T))
def step (a : List Ev) (O : List Ev) (e : Ev) : List Ev := if 0 ≤ ix a e.T then O else ins O e
def two (a b : List Ev) : List Ev := b.foldl (step a) a
end Mrg
end Go.Proofs.YtkoijdmlehkhbaaGreatDoor
namespace Go.Proofs.YtkoijdmlehkhbaaGreatDoor
open Go Go.J
attribute [local irreducible] At AtQ AtM AtM1 PR Ct Pu Rd Res.blk Res.own Res.ex RVs RV
namespace Mrg
abbrev fn (a : Int) : List Value := [.int .i64 a]
instance : Fl fn 1 := ⟨fun _ => rfl, fun x v h => by simp at h; subst h; rfl, by decide⟩
theorem index {m : Mem} (p : Option Addr) (c : Nat) (l : List Int) (v : Int) (hl : l.length ≤ 1000000) (sl0 : Sl m fn 1 p c l) :
    Ct Tryz.prog 158 #[.slice p l.length c, .int .i64 v] m [] (fun r m' B => m = m' ∧ B = [] ∧ ∃ k : Int, r = .int .i64 k ∧ (0 ≤ k ↔ v ∈ l)) := by
  refine Ct.enterV (by rfl) Tryz.func158 rfl Tryz.ntmps158 rfl (fun w0 Rest => ?_)
  (repeat' (first | refine zss ?_ | refine zsM ?_ | (refine zsp ?_ ?_ <;> (intro hc; (try simp only [zhcs, reduceCtorEq] at hc); (try (exfalso; first | contradiction | omega | exact absurd rfl hc | exact absurd (by decide) hc))))))
  (refine At.loopk (σ := Nat) [0, 1, 7] (fun s F0 => (8, .int .i64 (s : Int)) :: F0) (fun s => m) (fun s => Rest) (fun s => s ≤ l.length ∧ ∀ i, i < s → l[i]! ≠ v) (fun s => l.length - s) 0 (by rfl) ?_ zsubs zml zente ?_)
  · exact ⟨Nat.zero_le _, fun i h => absurd h (Nat.not_lt_zero i)⟩
  rintro s ⟨hs, hn⟩
  by_cases h : s < l.length
  · by_cases e : l[s]! = v
    · have hmem : v ∈ l := by rw [← e, getElem!_pos l s h]; exact List.getElem_mem h
      (repeat' (first | refine zss ?_ | refine zsM ?_ | (refine zsp ?_ ?_ <;> (intro hc; (try simp only [zhcs, reduceCtorEq] at hc); (try (exfalso; first | omega | contradiction | omega | exact absurd rfl hc | exact absurd (by decide) hc))))))
      all_goals ((with_reducible apply At.retB1 (B := [])); exact rfl; exact rfl; exact zml; exact zkp; exact ⟨rfl, rfl, _, rfl, ⟨fun _ => hmem, fun _ => by omega⟩⟩)
    · have hnn : ∀ i, i < s + 1 → l[i]! ≠ v := fun i hi => by
        by_cases e1 : i = s
        · subst e1; exact e
        · exact hn i (by omega)
      (repeat' (first | refine zss ?_ | refine zsM ?_ | (refine zsp ?_ ?_ <;> (intro hc; (try simp only [zhcs, reduceCtorEq] at hc); (try (exfalso; first | omega | contradiction | omega | exact absurd rfl hc | exact absurd (by decide) hc))))))
      all_goals ((with_reducible refine At.reachk ((s + 1)) ?_ ?_ ?_ ?_); exact zsubs; exact zml; exact zente; exact ⟨⟨h, hnn⟩, by omega⟩)
  · have hno : ¬ v ∈ l := fun hm => by
      obtain ⟨i, hi, he⟩ := List.mem_iff_getElem.1 hm
      exact hn i (by omega) (by rw [getElem!_pos l i hi]; exact he)
    (repeat' (first | refine zss ?_ | refine zsM ?_ | (refine zsp ?_ ?_ <;> (intro hc; (try simp only [zhcs, reduceCtorEq] at hc); (try (exfalso; first | omega | contradiction | omega | exact absurd rfl hc | exact absurd (by decide) hc))))))
    all_goals ((with_reducible apply At.retB1 (B := [])); exact rfl; exact rfl; exact zml; exact zkp; exact ⟨rfl, rfl, _, rfl, ⟨fun hh => absurd hh (by decide), fun hh => absurd hh hno⟩⟩)
theorem contains {m : Mem} (p : Option Addr) (c : Nat) (l : List Int) (v : Int) (hl : l.length ≤ 1000000) (sl0 : Sl m fn 1 p c l) :
    Rd Tryz.prog 110 #[.slice p l.length c, .int .i64 v] m [] (.bool (decide (v ∈ l))) := by
  unfold Rd
  refine Ct.enterV (by rfl) Tryz.func110 rfl Tryz.ntmps110 rfl (fun w0 Rest => ?_)
  (repeat' (first | refine zss ?_ | refine zsM ?_ | ((with_reducible first | apply At.c1 | apply At.c0); exact rfl; exact rfl; exact index p c l v hl sl0; exact ztk; kernel_rfl; rintro v' m' B' hm' ⟨rfl, rfl, k, rfl, hk⟩; (try replace sl0 := sl0.mono hm'); (try (have hq0 : hm' = Mem.le_refl _ := rfl; clear hq0 hm'))) | (refine zsp ?_ ?_ <;> (intro hc; (try simp only [zhcs, reduceCtorEq] at hc); (try (exfalso; first | contradiction | omega | exact absurd rfl hc | exact absurd (by decide) hc))))))
  all_goals ((with_reducible apply At.retB1 (B := [])); exact rfl; exact rfl; exact zml; exact zkp; exact ⟨congrArg Value.bool (by rw [decide_eq_decide]; exact hk), rfl, rfl⟩)
end Mrg
end Go.Proofs.YtkoijdmlehkhbaaGreatDoor
namespace Go.Proofs.YtkoijdmlehkhbaaGreatDoor
open Go Go.J
attribute [local irreducible] At AtQ AtM AtM1 PR Ct Pu Rd Res.blk Res.own Res.ex RVs RV
namespace Mrg
open Ev
abbrev ptr (b : Nat) : Value := .pointer (some ⟨b, 0, none⟩)
def tk (ws : List Int) (who : Int) (L : List Ev) (e : Ev) : List Ev := if who ∈ ws then L ++ [e] else L
/-- what the closure has: whose events, and those it took -/
abbrev tr (b5 b8 : Nat) (pw : Option Addr) (cw : Nat) (ws : List Int) (p : Option Addr) (c : Nat) (L : List Ev) : List Res :=
  [.blk b5 48 [.slice pw ws.length cw], .blk b8 51 [.slice p L.length c], .own cells 4 57 p c L]
theorem take_ {m : Mem} (b5 b8 : Nat) (pw : Option Addr) (cw : Nat) (ws : List Int) (p : Option Addr) (c : Nat) (L : List Ev) (e : Ev) (who : Int) (hw : ws.length ≤ 1000) (hL : L.length ≤ 4000000) (sl0 : Sl m fn 1 pw cw ws) :
    Ct Tryz.prog 109 #[e.v, .int .i64 who, ptr b5, ptr b8] m (tr b5 b8 pw cw ws p c L) (fun v m' B => v = .tuple #[] ∧ m = m' ∧ ∃ p' c', B = tr b5 b8 pw cw ws p' c' (tk ws who L e)) := by
  by_cases h : who ∈ ws
  · have ht : tk ws who L e = L ++ [e] := if_pos h
    rw [ht]
    refine Ct.enterV (by rfl) Tryz.func109 rfl Tryz.ntmps109 rfl (fun w0 Rest => ?_)
    (repeat' (first | refine zss ?_ | refine zsOM ?_ | ((with_reducible first | apply AtM1.cr | apply AtQ.cr | apply At.cr); exact rfl; exact rfl; exact fun _ hmm => decide_eq_true h ▸ contains pw cw ws who (by omega) (sl0.mono hmm); exact ztk; kernel_rfl) | ((with_reducible apply At.lit cells [e]); exact inferInstance; (iterate 7 exact rfl); intro _) | ((with_reducible apply At.apW (f := cells)); exact rfl; exact rfl; exact (by repeat constructor); exact inferInstance; exact zrdl; (iterate 4 exact rfl); exact zom; exact rfl; intro p2 c2) | ((with_reducible apply At.box (d := 4)); exact rfl; exact rfl; exact rfl; intro b4) | (refine zsp ?_ ?_ <;> (intro hc; (try simp only [zhcs, reduceCtorEq] at hc); (try (exfalso; first | omega | contradiction | omega | exact absurd rfl hc | exact absurd (by decide) hc))))))
    all_goals ((first | (with_reducible apply At.retB0 (B := [.blk b5 _ _, .blk b8 _ _, .own cells 4 57 _ _ (L ++ [e])])) | (with_reducible apply At.retR0 (B := [.blk b5 _ _, .blk b8 _ _, .own cells 4 57 _ _ (L ++ [e])]))); exact rfl; exact zml; exact zkp; exact ⟨rfl, rfl, _, _, rfl⟩)
  · have ht : tk ws who L e = L := if_neg h
    rw [ht]
    refine Ct.enterV (by rfl) Tryz.func109 rfl Tryz.ntmps109 rfl (fun w0 Rest => ?_)
    (repeat' (first | refine zss ?_ | refine zsOM ?_ | ((with_reducible first | apply AtM1.cr | apply AtQ.cr | apply At.cr); exact rfl; exact rfl; exact fun _ hmm => decide_eq_false h ▸ contains pw cw ws who (by omega) (sl0.mono hmm); exact ztk; kernel_rfl) | ((with_reducible apply At.box (d := 4)); exact rfl; exact rfl; exact rfl; intro b4) | (refine zsp ?_ ?_ <;> (intro hc; (try simp only [zhcs, reduceCtorEq] at hc); (try (exfalso; first | omega | contradiction | omega | exact absurd rfl hc | exact absurd (by decide) hc))))))
    all_goals ((first | (with_reducible apply At.retB0 (B := [.blk b5 _ _, .blk b8 _ _, .own cells 4 57 _ _ L])) | (with_reducible apply At.retR0 (B := [.blk b5 _ _, .blk b8 _ _, .own cells 4 57 _ _ L]))); exact rfl; exact zml; exact zkp; exact ⟨rfl, rfl, _, _, rfl⟩)
end Mrg
end Go.Proofs.YtkoijdmlehkhbaaGreatDoor
namespace Go.Proofs.YtkoijdmlehkhbaaGreatDoor
open Go Go.J
attribute [local irreducible] At AtQ AtM AtM1 PR Ct Pu Rd Res.blk Res.own Res.ex RVs RV
namespace Mrg
open Ev
def mg (ws : List Int) : List Ev → List Ev → List Ev → Option (List Ev × List Ev × List Ev)
  | [], b, O => some ([], b, O)
  | x :: a, [], O => some (x :: a, [], O)
  | x :: a, y :: b, O => if x = y then mg ws a b (tk ws 2 O x) else if x.T < y.T then mg ws a (y :: b) (tk ws 0 O x) else if y.T < x.T then mg ws (x :: a) b (tk ws 1 O y) else none
termination_by a b => a.length + b.length
theorem tk_len (ws : List Int) (w : Int) (O : List Ev) (e : Ev) : (tk ws w O e).length ≤ O.length + 1 := by
  unfold tk; split <;> simp
structure WS where
  (A : List Ev) (pa : Option Addr) (ca : Nat) (B : List Ev) (pb : Option Addr) (cb : Nat) (O : List Ev) (p : Option Addr) (c : Nat)
theorem walk1 {m : Mem} (b5 b8 : Nat) (pw : Option Addr) (cw : Nat) (ws : List Int) (pa : Option Addr) (ca : Nat) (a : List Ev) (pb : Option Addr) (cb : Nat) (b : List Ev) (p : Option Addr) (c : Nat) (L : List Ev)
    (hw : ws.length ≤ 1000) (ha : a.length ≤ 1000000) (hb : b.length ≤ 1000000) (hL : L.length ≤ 1000000) (sl0 : Sl m fn 1 pw cw ws) (sl1 : Sl m cells 4 pa ca a) (sl2 : Sl m cells 4 pb cb b) (h1 : chk a = 0) (h2 : chk b = 0) (hm : mg ws a b L = none) :
    Ct Tryz.prog 108 #[.slice pa a.length ca, .slice pb b.length cb, .func (.func 109) #[] #[ptr b5, ptr b8]] m (tr b5 b8 pw cw ws p c L) (fun v m' B => v = .int .i64 16 ∧ m = m' ∧ ∃ p' c' L', B = tr b5 b8 pw cw ws p' c' L') := by
  have k1 : ∀ m', m.le m' → Rd Tryz.prog 157 #[.slice pa a.length ca] m' [] (.int .i64 0) := fun m' hm => h1 ▸ check pa ca a ha (sl1.mono hm)
  have k2 : ∀ m', m.le m' → Rd Tryz.prog 157 #[.slice pb b.length cb] m' [] (.int .i64 0) := fun m' hm => h2 ▸ check pb cb b hb (sl2.mono hm)
  refine Ct.enterV (by rfl) Tryz.func108 rfl Tryz.ntmps108 rfl (fun w0 Rest => ?_)
  (repeat' (first | refine zss ?_ | refine zsM ?_ | ((with_reducible first | apply AtM1.cr | apply AtQ.cr | apply At.cr); exact rfl; exact rfl; exact fun _ hmm => k1 _ hmm; exact ztk; kernel_rfl) | ((with_reducible first | apply AtM1.cr | apply AtQ.cr | apply At.cr); exact rfl; exact rfl; exact fun _ hmm => k2 _ hmm; exact ztk; kernel_rfl) | ((with_reducible apply At.alloc (d := 10)); exact rfl; exact rfl; intro b10) | ((with_reducible apply At.alloc (d := 12)); exact rfl; exact rfl; intro b12) | (refine zsp ?_ ?_ <;> (intro hc; (try simp only [zhcs, reduceCtorEq] at hc); (try (exfalso; first | omega | contradiction | omega | exact absurd rfl hc | exact absurd (by decide) hc))))))
  (refine At.loopk (σ := WS) [2] (fun s F0 => (0, .slice s.pa s.A.length s.ca) :: (1, .slice s.pb s.B.length s.cb) :: F0) (fun s => m) (fun s => .blk b5 48 [.slice pw ws.length cw] :: .blk b8 51 [.slice s.p s.O.length s.c] :: .own cells 4 57 s.p s.c s.O :: Rest) (fun s => Sl m cells 4 s.pa s.ca s.A ∧ Sl m cells 4 s.pb s.cb s.B ∧ mg ws s.A s.B s.O = none ∧ s.A.length ≤ 1000000 ∧ s.B.length ≤ 1000000 ∧ s.O.length + s.A.length + s.B.length ≤ 3000000) (fun s => s.A.length + s.B.length) ⟨a, pa, ca, b, pb, cb, L, p, c⟩ (by rfl) ?_ zsubs zml zente ?_)
  · exact ⟨sl1, sl2, hm, ha, hb, by show L.length + a.length + b.length ≤ _; omega⟩
  rintro ⟨A, qa, da, B, qb, db, O, q, d⟩ ⟨sl3, sl4, g1, g2, g3, g4⟩
  dsimp only at sl3 sl4 g1 g2 g3 g4 ⊢
  rcases A with _ | ⟨x, A⟩
  · rw [mg] at g1; cases g1
  rcases B with _ | ⟨y, B⟩
  · rw [mg] at g1; cases g1
  rw [mg] at g1
  simp only [List.length_cons] at g2 g3 g4
  by_cases e1 : x = y
  · rw [if_pos e1] at g1
    have hl := tk_len ws 2 O x
    (repeat' (first | refine zss ?_ | ((first | (with_reducible first | apply At.val | apply AtQ.val)); (first | exact pr_eveq (by rfl) (by rfl) | exact pr_fieldAddr_at (k := 0 * 4) (by rfl) (by rfl)); exact rfl) | refine zsOM ?_ | ((with_reducible apply At.callf); exact rfl; kernel_rfl; exact rfl; exact rfl; exact take_ b5 b8 pw cw ws q d O x 2 hw (by omega) sl0; exact ztk; rintro v' m' B' hm' ⟨rfl, rfl, p2, c2, rfl⟩; (try replace sl0 := sl0.mono hm'); (try replace sl1 := sl1.mono hm'); (try replace sl2 := sl2.mono hm'); (try replace sl3 := sl3.mono hm'); (try replace sl4 := sl4.mono hm')) | ((with_reducible apply At.alloc (d := 10)); exact rfl; exact rfl; intro b10) | ((with_reducible apply At.alloc (d := 12)); exact rfl; exact rfl; intro b12) | (refine zsp ?_ ?_ <;> (intro hc; (try simp only [zhcs, reduceCtorEq] at hc); (try (exfalso; first | (first | omega | (simp only [List.length_cons] at hc; omega) | exact absurd e1 hc | exact absurd hc e1) | contradiction | omega | exact absurd rfl hc | exact absurd (by decide) hc))))))
    all_goals ((with_reducible refine At.reachk (⟨A, subp qa da 1 4, da - 1, B, subp qb db 1 4, db - 1, tk ws 2 O x, p2, c2⟩) ?_ ?_ ?_ ?_); exact zsubs; exact zml; exact zente; exact ⟨⟨Sl.subl sl3 1 (by simp), Sl.subl sl4 1 (by simp), g1, by dsimp only [List.length_cons]; omega, by dsimp only [List.length_cons]; omega, by dsimp only [List.length_cons]; omega⟩, by dsimp only [List.length_cons]; omega⟩)
  · rw [if_neg e1] at g1
    by_cases e2 : x.T < y.T
    · rw [if_pos e2] at g1
      have hl := tk_len ws 0 O x
      (repeat' (first | refine zss ?_ | ((first | (with_reducible first | apply At.val | apply AtQ.val)); (first | exact pr_eveq (by rfl) (by rfl) | exact pr_fieldAddr_at (k := 0 * 4) (by rfl) (by rfl)); exact rfl) | refine zsOM ?_ | ((with_reducible apply At.callf); exact rfl; kernel_rfl; exact rfl; exact rfl; exact take_ b5 b8 pw cw ws q d O x 0 hw (by omega) sl0; exact ztk; rintro v' m' B' hm' ⟨rfl, rfl, p2, c2, rfl⟩; (try replace sl0 := sl0.mono hm'); (try replace sl1 := sl1.mono hm'); (try replace sl2 := sl2.mono hm'); (try replace sl3 := sl3.mono hm'); (try replace sl4 := sl4.mono hm')) | ((with_reducible apply At.alloc (d := 10)); exact rfl; exact rfl; intro b10) | ((with_reducible apply At.alloc (d := 12)); exact rfl; exact rfl; intro b12) | (refine zsp ?_ ?_ <;> (intro hc; (try simp only [zhcs, reduceCtorEq] at hc); (try (exfalso; first | (first | omega | (simp only [List.length_cons] at hc; omega) | exact absurd e1 hc | exact absurd hc e1) | contradiction | omega | exact absurd rfl hc | exact absurd (by decide) hc))))))
      all_goals ((with_reducible refine At.reachk (⟨A, subp qa da 1 4, da - 1, y :: B, qb, db, tk ws 0 O x, p2, c2⟩) ?_ ?_ ?_ ?_); exact zsubs; exact zml; exact zente; exact ⟨⟨Sl.subl sl3 1 (by simp), sl4, g1, by dsimp only [List.length_cons]; omega, by dsimp only [List.length_cons]; omega, by dsimp only [List.length_cons]; omega⟩, by dsimp only [List.length_cons]; omega⟩)
    · rw [if_neg e2] at g1
      by_cases e3 : y.T < x.T
      · rw [if_pos e3] at g1
        have hl := tk_len ws 1 O y
        (repeat' (first | refine zss ?_ | ((first | (with_reducible first | apply At.val | apply AtQ.val)); (first | exact pr_eveq (by rfl) (by rfl) | exact pr_fieldAddr_at (k := 0 * 4) (by rfl) (by rfl)); exact rfl) | refine zsOM ?_ | ((with_reducible apply At.callf); exact rfl; kernel_rfl; exact rfl; exact rfl; exact take_ b5 b8 pw cw ws q d O y 1 hw (by omega) sl0; exact ztk; rintro v' m' B' hm' ⟨rfl, rfl, p2, c2, rfl⟩; (try replace sl0 := sl0.mono hm'); (try replace sl1 := sl1.mono hm'); (try replace sl2 := sl2.mono hm'); (try replace sl3 := sl3.mono hm'); (try replace sl4 := sl4.mono hm')) | ((with_reducible apply At.alloc (d := 10)); exact rfl; exact rfl; intro b10) | ((with_reducible apply At.alloc (d := 12)); exact rfl; exact rfl; intro b12) | (refine zsp ?_ ?_ <;> (intro hc; (try simp only [zhcs, reduceCtorEq] at hc); (try (exfalso; first | (first | omega | (simp only [List.length_cons] at hc; omega) | exact absurd e1 hc | exact absurd hc e1) | contradiction | omega | exact absurd rfl hc | exact absurd (by decide) hc))))))
        all_goals ((with_reducible refine At.reachk (⟨x :: A, qa, da, B, subp qb db 1 4, db - 1, tk ws 1 O y, p2, c2⟩) ?_ ?_ ?_ ?_); exact zsubs; exact zml; exact zente; exact ⟨⟨sl3, Sl.subl sl4 1 (by simp), g1, by dsimp only [List.length_cons]; omega, by dsimp only [List.length_cons]; omega, by dsimp only [List.length_cons]; omega⟩, by dsimp only [List.length_cons]; omega⟩)
      · (repeat' (first | refine zss ?_ | ((first | (with_reducible first | apply At.val | apply AtQ.val)); (first | exact pr_eveq (by rfl) (by rfl) | exact pr_fieldAddr_at (k := 0 * 4) (by rfl) (by rfl)); exact rfl) | refine zsOM ?_ | ((with_reducible apply At.alloc (d := 10)); exact rfl; exact rfl; intro b10) | ((with_reducible apply At.alloc (d := 12)); exact rfl; exact rfl; intro b12) | (refine zsp ?_ ?_ <;> (intro hc; (try simp only [zhcs, reduceCtorEq] at hc); (try (exfalso; first | (first | omega | (simp only [List.length_cons] at hc; omega) | exact absurd e1 hc | exact absurd hc e1) | contradiction | omega | exact absurd rfl hc | exact absurd (by decide) hc))))))
        all_goals ((with_reducible apply At.retB1 (B := [.blk b5 _ _, .blk b8 _ _, .own cells 4 57 _ _ O])); exact rfl; exact rfl; exact zml; exact zkp; exact ⟨rfl, rfl, _, _, _, rfl⟩)
end Mrg
end Go.Proofs.YtkoijdmlehkhbaaGreatDoor
namespace Go.Proofs.YtkoijdmlehkhbaaGreatDoor
open Go Go.J
attribute [local irreducible] At AtQ AtM AtM1 PR Ct Pu Rd Res.blk Res.own Res.ex RVs RV
namespace Mrg
open Ev
theorem tk_take (ws : List Int) (w : Int) (A O : List Ev) {k : Nat} (h : k < A.length) : (A.take (k + 1)).foldl (tk ws w) O = tk ws w ((A.take k).foldl (tk ws w) O) (A[k]!) := by
  have e : A.take (k + 1) = A.take k ++ [A[k]!] := by rw [List.take_add_one, getElem!_pos A k h]; simp [h]
  rw [e, List.foldl_append]; rfl
structure LS where
  (i : Nat) (O : List Ev) (p : Option Addr) (c : Nat)
theorem walk2 {m : Mem} (b5 b8 : Nat) (pw : Option Addr) (cw : Nat) (ws : List Int) (pa : Option Addr) (ca : Nat) (a : List Ev) (pb : Option Addr) (cb : Nat) (b : List Ev) (p : Option Addr) (c : Nat) (L : List Ev) (r : List Ev × List Ev × List Ev)
    (hw : ws.length ≤ 1000) (ha : a.length ≤ 1000000) (hb : b.length ≤ 1000000) (hL : L.length ≤ 1000000) (sl0 : Sl m fn 1 pw cw ws) (sl1 : Sl m cells 4 pa ca a) (sl2 : Sl m cells 4 pb cb b) (h1 : chk a = 0) (h2 : chk b = 0) (hm : mg ws a b L = some r) :
    Ct Tryz.prog 108 #[.slice pa a.length ca, .slice pb b.length cb, .func (.func 109) #[] #[ptr b5, ptr b8]] m (tr b5 b8 pw cw ws p c L) (fun v m' B => v = .int .i64 0 ∧ m = m' ∧ ∃ p' c', B = tr b5 b8 pw cw ws p' c' (r.2.1.foldl (tk ws 1) (r.1.foldl (tk ws 0) r.2.2))) := by
  have k1 : ∀ m', m.le m' → Rd Tryz.prog 157 #[.slice pa a.length ca] m' [] (.int .i64 0) := fun m' hm => h1 ▸ check pa ca a ha (sl1.mono hm)
  have k2 : ∀ m', m.le m' → Rd Tryz.prog 157 #[.slice pb b.length cb] m' [] (.int .i64 0) := fun m' hm => h2 ▸ check pb cb b hb (sl2.mono hm)
  refine Ct.enterV (by rfl) Tryz.func108 rfl Tryz.ntmps108 rfl (fun w0 Rest => ?_)
  (repeat' (first | refine zss ?_ | refine zsM ?_ | ((with_reducible first | apply AtM1.cr | apply AtQ.cr | apply At.cr); exact rfl; exact rfl; exact fun _ hmm => k1 _ hmm; exact ztk; kernel_rfl) | ((with_reducible first | apply AtM1.cr | apply AtQ.cr | apply At.cr); exact rfl; exact rfl; exact fun _ hmm => k2 _ hmm; exact ztk; kernel_rfl) | ((with_reducible apply At.alloc (d := 10)); exact rfl; exact rfl; intro b10) | ((with_reducible apply At.alloc (d := 12)); exact rfl; exact rfl; intro b12) | (refine zsp ?_ ?_ <;> (intro hc; (try simp only [zhcs, reduceCtorEq] at hc); (try (exfalso; first | omega | contradiction | omega | exact absurd rfl hc | exact absurd (by decide) hc))))))
  (refine At.loopk (σ := WS) [2] (fun s F0 => (0, .slice s.pa s.A.length s.ca) :: (1, .slice s.pb s.B.length s.cb) :: F0) (fun s => m) (fun s => .blk b5 48 [.slice pw ws.length cw] :: .blk b8 51 [.slice s.p s.O.length s.c] :: .own cells 4 57 s.p s.c s.O :: Rest) (fun s => Sl m cells 4 s.pa s.ca s.A ∧ Sl m cells 4 s.pb s.cb s.B ∧ mg ws s.A s.B s.O = some r ∧ s.A.length ≤ 1000000 ∧ s.B.length ≤ 1000000 ∧ s.O.length + s.A.length + s.B.length ≤ 3000000) (fun s => s.A.length + s.B.length) ⟨a, pa, ca, b, pb, cb, L, p, c⟩ (by rfl) ?_ zsubs zml zente ?_)
  · exact ⟨sl1, sl2, hm, ha, hb, by show L.length + a.length + b.length ≤ _; omega⟩
  rintro ⟨A, qa, da, B, qb, db, O, q, d⟩ ⟨sl3, sl4, g1, g2, g3, g4⟩
  dsimp only at sl3 sl4 g1 g2 g3 g4 ⊢
  by_cases hend : A = [] ∨ B = []
  · have hr : r = (A, B, O) := by
      rcases A with _ | ⟨x, A⟩
      · rw [mg] at g1; exact (Option.some.inj g1).symm
      · rcases B with _ | ⟨y, B⟩
        · rw [mg] at g1; exact (Option.some.inj g1).symm
        · rcases hend with h | h <;> cases h
    subst hr
    have hz : A.length = 0 ∨ B.length = 0 := by rcases hend with h | h <;> simp [h]
    dsimp only
    (repeat' (first | refine zss ?_ | refine zsOM ?_ | ((with_reducible apply At.alloc (d := 10)); exact rfl; exact rfl; intro b10) | ((with_reducible apply At.alloc (d := 12)); exact rfl; exact rfl; intro b12) | (refine zsp ?_ ?_ <;> (intro hc; (try simp only [zhcs, reduceCtorEq] at hc); (try (exfalso; first | omega | contradiction | omega | exact absurd rfl hc | exact absurd (by decide) hc))))))
    all_goals
      (refine At.loopk (σ := LS) [1, 2, 82, 83] (fun s F0 => (84, .int .i64 (s.i : Int)) :: F0) (fun s => m) (fun s => .blk b5 48 [.slice pw ws.length cw] :: .blk b8 51 [.slice s.p s.O.length s.c] :: .own cells 4 57 s.p s.c s.O :: Rest) (fun s => s.i ≤ A.length ∧ s.O = (A.take s.i).foldl (tk ws 0) O ∧ s.O.length ≤ O.length + s.i) (fun s => A.length - s.i) ⟨0, O, q, d⟩ (by rfl) ?_ zsubs zml zente ?_)
      · exact ⟨Nat.zero_le _, rfl, Nat.le_refl _⟩
      rintro ⟨i, O1, q1, d1⟩ ⟨f1, f2, f3⟩
      dsimp only at f1 f2 f3 ⊢
      by_cases h : i < A.length
      · have ht := tk_take ws 0 A O h
        have hl := tk_len ws 0 O1 (A[i]!)
        (repeat' (first | refine zss ?_ | refine zsOM ?_ | ((with_reducible apply At.callf); exact rfl; kernel_rfl; exact rfl; exact rfl; exact take_ b5 b8 pw cw ws q1 d1 O1 (A[i]!) 0 hw (by omega) sl0; exact ztk; rintro v' m' B' hm' ⟨rfl, rfl, p2, c2, rfl⟩; (try replace sl0 := sl0.mono hm'); (try replace sl1 := sl1.mono hm'); (try replace sl2 := sl2.mono hm'); (try replace sl3 := sl3.mono hm'); (try replace sl4 := sl4.mono hm')) | ((with_reducible apply At.alloc (d := 10)); exact rfl; exact rfl; intro b10) | ((with_reducible apply At.alloc (d := 12)); exact rfl; exact rfl; intro b12) | (refine zsp ?_ ?_ <;> (intro hc; (try simp only [zhcs, reduceCtorEq] at hc); (try (exfalso; first | omega | contradiction | omega | exact absurd rfl hc | exact absurd (by decide) hc))))))
        all_goals ((with_reducible refine At.reachk (⟨i + 1, tk ws 0 O1 (A[i]!), p2, c2⟩) ?_ ?_ ?_ ?_); exact zsubs; exact zml; exact zente; exact ⟨⟨h, by show _ = _; rw [ht, ← f2], by dsimp only; omega⟩, by dsimp only; omega⟩)
      · rw [List.take_of_length_le (by omega)] at f2
        rw [← f2]
        (repeat' (first | refine zss ?_ | refine zsOM ?_ | ((with_reducible apply At.alloc (d := 10)); exact rfl; exact rfl; intro b10) | ((with_reducible apply At.alloc (d := 12)); exact rfl; exact rfl; intro b12) | (refine zsp ?_ ?_ <;> (intro hc; (try simp only [zhcs, reduceCtorEq] at hc); (try (exfalso; first | omega | contradiction | omega | exact absurd rfl hc | exact absurd (by decide) hc))))))
        (refine At.loopk (σ := LS) [2, 92, 93] (fun s F0 => (94, .int .i64 (s.i : Int)) :: F0) (fun s => m) (fun s => .blk b5 48 [.slice pw ws.length cw] :: .blk b8 51 [.slice s.p s.O.length s.c] :: .own cells 4 57 s.p s.c s.O :: Rest) (fun s => s.i ≤ B.length ∧ s.O = (B.take s.i).foldl (tk ws 1) O1 ∧ s.O.length ≤ O1.length + s.i) (fun s => B.length - s.i) ⟨0, O1, q1, d1⟩ (by rfl) ?_ zsubs zml zente ?_)
        · exact ⟨Nat.zero_le _, rfl, Nat.le_refl _⟩
        clear f2
        rintro ⟨j, O2, q2, d2⟩ ⟨e1, f2, e3⟩
        dsimp only at e1 f2 e3 ⊢
        by_cases h : j < B.length
        · have ht := tk_take ws 1 B O1 h
          have hl := tk_len ws 1 O2 (B[j]!)
          (repeat' (first | refine zss ?_ | refine zsOM ?_ | ((with_reducible apply At.callf); exact rfl; kernel_rfl; exact rfl; exact rfl; exact take_ b5 b8 pw cw ws q2 d2 O2 (B[j]!) 1 hw (by omega) sl0; exact ztk; rintro v' m' B' hm' ⟨rfl, rfl, p2, c2, rfl⟩; (try replace sl0 := sl0.mono hm'); (try replace sl1 := sl1.mono hm'); (try replace sl2 := sl2.mono hm'); (try replace sl3 := sl3.mono hm'); (try replace sl4 := sl4.mono hm')) | ((with_reducible apply At.alloc (d := 10)); exact rfl; exact rfl; intro b10) | ((with_reducible apply At.alloc (d := 12)); exact rfl; exact rfl; intro b12) | (refine zsp ?_ ?_ <;> (intro hc; (try simp only [zhcs, reduceCtorEq] at hc); (try (exfalso; first | omega | contradiction | omega | exact absurd rfl hc | exact absurd (by decide) hc))))))
          all_goals ((with_reducible refine At.reachk (⟨j + 1, tk ws 1 O2 (B[j]!), p2, c2⟩) ?_ ?_ ?_ ?_); exact zsubs; exact zml; exact zente; exact ⟨⟨h, by show _ = _; rw [ht, ← f2], by dsimp only; omega⟩, by dsimp only; omega⟩)
        · rw [List.take_of_length_le (by omega)] at f2
          rw [← f2]
          (repeat' (first | refine zss ?_ | refine zsOM ?_ | ((with_reducible apply At.alloc (d := 10)); exact rfl; exact rfl; intro b10) | ((with_reducible apply At.alloc (d := 12)); exact rfl; exact rfl; intro b12) | (refine zsp ?_ ?_ <;> (intro hc; (try simp only [zhcs, reduceCtorEq] at hc); (try (exfalso; first | omega | contradiction | omega | exact absurd rfl hc | exact absurd (by decide) hc))))))
          all_goals ((with_reducible apply At.retB1 (B := [.blk b5 _ _, .blk b8 _ _, .own cells 4 57 _ _ O2])); exact rfl; exact rfl; exact zml; exact zkp; exact ⟨rfl, rfl, _, _, rfl⟩)
  rcases A with _ | ⟨x, A⟩
  · exact absurd (.inl rfl) hend
  rcases B with _ | ⟨y, B⟩
  · exact absurd (.inr rfl) hend
  clear hend
  rw [mg] at g1
  simp only [List.length_cons] at g2 g3 g4
  by_cases e1 : x = y
  · rw [if_pos e1] at g1
    have hl := tk_len ws 2 O x
    (repeat' (first | refine zss ?_ | ((first | (with_reducible first | apply At.val | apply AtQ.val)); (first | exact pr_eveq (by rfl) (by rfl) | exact pr_fieldAddr_at (k := 0 * 4) (by rfl) (by rfl)); exact rfl) | refine zsOM ?_ | ((with_reducible apply At.callf); exact rfl; kernel_rfl; exact rfl; exact rfl; exact take_ b5 b8 pw cw ws q d O x 2 hw (by omega) sl0; exact ztk; rintro v' m' B' hm' ⟨rfl, rfl, p2, c2, rfl⟩; (try replace sl0 := sl0.mono hm'); (try replace sl1 := sl1.mono hm'); (try replace sl2 := sl2.mono hm'); (try replace sl3 := sl3.mono hm'); (try replace sl4 := sl4.mono hm')) | ((with_reducible apply At.alloc (d := 10)); exact rfl; exact rfl; intro b10) | ((with_reducible apply At.alloc (d := 12)); exact rfl; exact rfl; intro b12) | (refine zsp ?_ ?_ <;> (intro hc; (try simp only [zhcs, reduceCtorEq] at hc); (try (exfalso; first | (first | omega | (simp only [List.length_cons] at hc; omega) | exact absurd e1 hc | exact absurd hc e1) | contradiction | omega | exact absurd rfl hc | exact absurd (by decide) hc))))))
    all_goals ((with_reducible refine At.reachk (⟨A, subp qa da 1 4, da - 1, B, subp qb db 1 4, db - 1, tk ws 2 O x, p2, c2⟩) ?_ ?_ ?_ ?_); exact zsubs; exact zml; exact zente; exact ⟨⟨Sl.subl sl3 1 (by simp), Sl.subl sl4 1 (by simp), g1, by dsimp only [List.length_cons]; omega, by dsimp only [List.length_cons]; omega, by dsimp only [List.length_cons]; omega⟩, by dsimp only [List.length_cons]; omega⟩)
  · rw [if_neg e1] at g1
    by_cases e2 : x.T < y.T
    · rw [if_pos e2] at g1
      have hl := tk_len ws 0 O x
      (repeat' (first | refine zss ?_ | ((first | (with_reducible first | apply At.val | apply AtQ.val)); (first | exact pr_eveq (by rfl) (by rfl) | exact pr_fieldAddr_at (k := 0 * 4) (by rfl) (by rfl)); exact rfl) | refine zsOM ?_ | ((with_reducible apply At.callf); exact rfl; kernel_rfl; exact rfl; exact rfl; exact take_ b5 b8 pw cw ws q d O x 0 hw (by omega) sl0; exact ztk; rintro v' m' B' hm' ⟨rfl, rfl, p2, c2, rfl⟩; (try replace sl0 := sl0.mono hm'); (try replace sl1 := sl1.mono hm'); (try replace sl2 := sl2.mono hm'); (try replace sl3 := sl3.mono hm'); (try replace sl4 := sl4.mono hm')) | ((with_reducible apply At.alloc (d := 10)); exact rfl; exact rfl; intro b10) | ((with_reducible apply At.alloc (d := 12)); exact rfl; exact rfl; intro b12) | (refine zsp ?_ ?_ <;> (intro hc; (try simp only [zhcs, reduceCtorEq] at hc); (try (exfalso; first | (first | omega | (simp only [List.length_cons] at hc; omega) | exact absurd e1 hc | exact absurd hc e1) | contradiction | omega | exact absurd rfl hc | exact absurd (by decide) hc))))))
      all_goals ((with_reducible refine At.reachk (⟨A, subp qa da 1 4, da - 1, y :: B, qb, db, tk ws 0 O x, p2, c2⟩) ?_ ?_ ?_ ?_); exact zsubs; exact zml; exact zente; exact ⟨⟨Sl.subl sl3 1 (by simp), sl4, g1, by dsimp only [List.length_cons]; omega, by dsimp only [List.length_cons]; omega, by dsimp only [List.length_cons]; omega⟩, by dsimp only [List.length_cons]; omega⟩)
    · rw [if_neg e2] at g1
      by_cases e3 : y.T < x.T
      · rw [if_pos e3] at g1
        have hl := tk_len ws 1 O y
        (repeat' (first | refine zss ?_ | ((first | (with_reducible first | apply At.val | apply AtQ.val)); (first | exact pr_eveq (by rfl) (by rfl) | exact pr_fieldAddr_at (k := 0 * 4) (by rfl) (by rfl)); exact rfl) | refine zsOM ?_ | ((with_reducible apply At.callf); exact rfl; kernel_rfl; exact rfl; exact rfl; exact take_ b5 b8 pw cw ws q d O y 1 hw (by omega) sl0; exact ztk; rintro v' m' B' hm' ⟨rfl, rfl, p2, c2, rfl⟩; (try replace sl0 := sl0.mono hm'); (try replace sl1 := sl1.mono hm'); (try replace sl2 := sl2.mono hm'); (try replace sl3 := sl3.mono hm'); (try replace sl4 := sl4.mono hm')) | ((with_reducible apply At.alloc (d := 10)); exact rfl; exact rfl; intro b10) | ((with_reducible apply At.alloc (d := 12)); exact rfl; exact rfl; intro b12) | (refine zsp ?_ ?_ <;> (intro hc; (try simp only [zhcs, reduceCtorEq] at hc); (try (exfalso; first | (first | omega | (simp only [List.length_cons] at hc; omega) | exact absurd e1 hc | exact absurd hc e1) | contradiction | omega | exact absurd rfl hc | exact absurd (by decide) hc))))))
        all_goals ((with_reducible refine At.reachk (⟨x :: A, qa, da, B, subp qb db 1 4, db - 1, tk ws 1 O y, p2, c2⟩) ?_ ?_ ?_ ?_); exact zsubs; exact zml; exact zente; exact ⟨⟨sl3, Sl.subl sl4 1 (by simp), g1, by dsimp only [List.length_cons]; omega, by dsimp only [List.length_cons]; omega, by dsimp only [List.length_cons]; omega⟩, by dsimp only [List.length_cons]; omega⟩)
      · rw [if_neg e3] at g1; cases g1
end Mrg
end Go.Proofs.YtkoijdmlehkhbaaGreatDoor
namespace Go.Proofs.YtkoijdmlehkhbaaGreatDoor
open Go Go.J
namespace Mrg
open Ev
theorem ix_iff {b : List Ev} {t : Int} : 0 ≤ ix b t ↔ ∃ e ∈ b, e.T = t := by
  rcases ix_spec b t with ⟨h1, h2⟩ | ⟨j, h1, h2, h3⟩
  · rw [h1]
    refine ⟨fun h => absurd h (by decide), fun ⟨e, he, ht⟩ => ?_⟩
    obtain ⟨i, hi, rfl⟩ := List.mem_iff_getElem.1 he
    exact absurd ht (by have := h2 i hi; rwa [getElem!_pos b i hi] at this)
  · rw [h1]
    exact ⟨fun _ => ⟨b[j]!, by rw [getElem!_pos b j h2]; exact List.getElem_mem h2, h3⟩, fun _ => by omega⟩
/-- no time has two events -/
def Fit (a b : List Ev) : Prop := ∀ x ∈ a, ∀ y ∈ b, x.T = y.T → x = y
theorem Fit.symm {a b : List Ev} (h : Fit a b) : Fit b a := fun x hx y hy e => (h y hy x hx e.symm).symm
theorem fits_iff {a b : List Ev} (hb : Asc b) : fits a b ↔ Fit a b := by
  constructor
  · intro h x hx y hy e
    obtain ⟨i, hi, rfl⟩ := List.mem_iff_getElem.1 hx
    have hf := h i hi
    rw [getElem!_pos a i hi] at hf
    rcases ix_spec b a[i].T with ⟨h1, h2⟩ | ⟨j, h1, h2, h3⟩
    · obtain ⟨k, hk, rfl⟩ := List.mem_iff_getElem.1 hy
      have := h2 k hk
      rw [getElem!_pos b k hk] at this
      exact absurd e.symm this
    · have hbj : b[j]! ∈ b := by rw [getElem!_pos b j h2]; exact List.getElem_mem h2
      have e2 := asc_inj hb hbj hy (by rw [h3, e])
      by_cases e3 : b[j]! = a[i]
      · rw [← e3, e2]
      · exact absurd ⟨j, h1, e3⟩ hf
  · rintro h i hi ⟨j, h1, h2⟩
    rcases ix_spec b (a[i]!).T with ⟨h3, h4⟩ | ⟨k, h3, h4, h5⟩
    · rw [h3] at h1; omega
    · obtain rfl : j = k := by omega
      exact h2 (h _ (by rw [getElem!_pos a i hi]; exact List.getElem_mem hi) _ (by rw [getElem!_pos b j h4]; exact List.getElem_mem h4) h5.symm).symm
theorem may_of {a b : List Ev} (h1 : chk a = 0) (h2 : chk b = 0) : (may a b = 0 ∧ Fit a b) ∨ (may a b = 16 ∧ ¬ Fit a b) := by
  unfold may
  rw [if_neg (fun h => h h1), if_neg (fun h => h h2)]
  have := fits_iff (a := a) (chk_zero.1 h2).2
  by_cases h : fits a b
  · rw [if_pos h]; exact .inl ⟨rfl, this.1 h⟩
  · rw [if_neg h]; exact .inr ⟨rfl, fun hh => h (this.2 hh)⟩
theorem may_zero {a b : List Ev} : may a b = 0 ↔ chk a = 0 ∧ chk b = 0 ∧ Fit a b := by
  by_cases h1 : chk a = 0
  · by_cases h2 : chk b = 0
    · rcases may_of h1 h2 with ⟨h3, h4⟩ | ⟨h3, h4⟩
      · exact ⟨fun _ => ⟨h1, h2, h4⟩, fun _ => h3⟩
      · exact ⟨fun h => by omega, fun h => absurd h.2.2 h4⟩
    · refine ⟨fun h => ?_, fun h => absurd h.2.1 h2⟩
      unfold may at h
      rw [if_neg (fun h => h h1), if_pos h2] at h
      exact absurd h h2
  · refine ⟨fun h => ?_, fun h => absurd h.1 h1⟩
    unfold may at h
    rw [if_pos h1] at h
    exact absurd h h1
/-- what is taken of the two -/
def took (ws : List Int) (r : List Ev × List Ev × List Ev) : List Ev := r.2.1.foldl (tk ws 1) (r.1.foldl (tk ws 0) r.2.2)
theorem foldl_tk (ws : List Int) (w : Int) : ∀ (A O : List Ev), A.foldl (tk ws w) O = O ++ (if w ∈ ws then A else [])
  | [], O => by by_cases h : w ∈ ws <;> simp [h]
  | x :: A, O => by
    rw [List.foldl_cons, foldl_tk ws w A]
    unfold tk
    by_cases h : w ∈ ws <;> simp [h]
def Wh (ws : List Int) (A B : List Ev) (e : Ev) : Prop := (e ∈ A ∧ e ∈ B ∧ 2 ∈ ws) ∨ (e ∈ A ∧ e ∉ B ∧ 0 ∈ ws) ∨ (e ∉ A ∧ e ∈ B ∧ 1 ∈ ws)
theorem Wh.or {ws : List Int} {A B : List Ev} {e : Ev} (h : Wh ws A B e) : e ∈ A ∨ e ∈ B := by
  rcases h with h | h | h
  · exact .inl h.1
  · exact .inl h.1
  · exact .inr h.2.1
theorem asc_ife {p : Prop} [Decidable p] {x : Ev} {M : List Ev} (h : ∀ e ∈ M, x.T < e.T) (hM : Asc M) : Asc ((if p then [x] else []) ++ M) := by
  split
  · exact List.pairwise_cons.2 ⟨h, hM⟩
  · exact hM
theorem tk_eq (ws : List Int) (w : Int) (O : List Ev) (x : Ev) : tk ws w O x = O ++ (if w ∈ ws then [x] else []) := by
  unfold tk; split <;> simp
theorem mem_ife {p : Prop} [Decidable p] {e x : Ev} {M : List Ev} : e ∈ (if p then [x] else []) ++ M ↔ (e = x ∧ p) ∨ e ∈ M := by
  by_cases h : p <;> simp [h]
theorem mg_spec (ws : List Int) : ∀ (A B O : List Ev), Asc A → Asc B → (mg ws A B O = none ∧ ¬ Fit A B) ∨ (∃ r M, mg ws A B O = some r ∧ Fit A B ∧ took ws r = O ++ M ∧ Asc M ∧ ∀ e, e ∈ M ↔ Wh ws A B e)
  | [], b, O, _, h2 => by
    refine .inr ⟨_, if (1 : Int) ∈ ws then b else [], by rw [mg], (fun x hx => by cases hx), by unfold took; rw [foldl_tk, List.foldl_nil], ?_, fun e => ?_⟩
    · split
      · exact h2
      · exact .nil
    · unfold Wh; by_cases h : (1 : Int) ∈ ws <;> simp [h]
  | x :: a, [], O, h1, _ => by
    refine .inr ⟨_, if (0 : Int) ∈ ws then x :: a else [], by rw [mg], (fun x hx y hy => by cases hy), by unfold took; rw [List.foldl_nil, foldl_tk], ?_, fun e => ?_⟩
    · split
      · exact h1
      · exact .nil
    · unfold Wh; by_cases h : (0 : Int) ∈ ws <;> simp [h]
  | x :: a, y :: b, O, h1, h2 => by
    obtain ⟨a1, a2⟩ := List.pairwise_cons.1 h1
    obtain ⟨b1, b2⟩ := List.pairwise_cons.1 h2
    rw [mg]
    by_cases e1 : x = y
    · rw [if_pos e1]
      subst e1
      have xa : x ∉ a := fun h => by have := a1 x h; omega
      have xb : x ∉ b := fun h => by have := b1 x h; omega
      rcases mg_spec ws a b (tk ws 2 O x) a2 b2 with ⟨g1, g2⟩ | ⟨r, M, g1, g2, g3, g4, g5⟩
      · exact .inl ⟨g1, fun h => g2 fun u hu v hv => h u (List.mem_cons_of_mem _ hu) v (List.mem_cons_of_mem _ hv)⟩
      · refine .inr ⟨r, (if (2 : Int) ∈ ws then [x] else []) ++ M, g1, ?_, by rw [g3, tk_eq, List.append_assoc], asc_ife (fun e he => ?_) g4, fun e => ?_⟩
        · intro u hu v hv e
          rcases List.mem_cons.1 hu with eu | hu1 <;> rcases List.mem_cons.1 hv with ew | hv1
          · rw [eu, ew]
          · have := b1 v hv1; subst eu; omega
          · have := a1 u hu1; subst ew; omega
          · exact g2 u hu1 v hv1 e
        · rcases ((g5 e).1 he).or with h | h
          · exact a1 e h
          · exact b1 e h
        · rw [mem_ife, g5]
          unfold Wh
          by_cases he : e = x
          · subst he; simp [xa, xb]
          · simp [he]
    · rw [if_neg e1]
      by_cases e2 : x.T < y.T
      · rw [if_pos e2]
        have xa : x ∉ a := fun h => by have := a1 x h; omega
        have xb : ∀ z ∈ y :: b, x.T < z.T := fun z h => by
          rcases List.mem_cons.1 h with rfl | h
          · exact e2
          · have := b1 z h; omega
        have xb' : x ∉ y :: b := fun h => by have := xb x h; omega
        rcases mg_spec ws a (y :: b) (tk ws 0 O x) a2 h2 with ⟨g1, g2⟩ | ⟨r, M, g1, g2, g3, g4, g5⟩
        · exact .inl ⟨g1, fun h => g2 fun u hu v hv => h u (List.mem_cons_of_mem _ hu) v hv⟩
        · refine .inr ⟨r, (if (0 : Int) ∈ ws then [x] else []) ++ M, g1, ?_, by rw [g3, tk_eq, List.append_assoc], asc_ife (fun e he => ?_) g4, fun e => ?_⟩
          · intro u hu v hv e
            rcases List.mem_cons.1 hu with rfl | hu
            · have := xb v hv; omega
            · exact g2 u hu v hv e
          · rcases ((g5 e).1 he).or with h | h
            · exact a1 e h
            · exact xb e h
          · rw [mem_ife, g5]
            unfold Wh
            by_cases he : e = x
            · subst he
              obtain ⟨n1, n2⟩ := not_or.1 (mt List.mem_cons.2 xb')
              simp [xa, n1, n2]
            · simp [he]
      · rw [if_neg e2]
        by_cases e3 : y.T < x.T
        · rw [if_pos e3]
          have yb : y ∉ b := fun h => by have := b1 y h; omega
          have ya : ∀ z ∈ x :: a, y.T < z.T := fun z h => by
            rcases List.mem_cons.1 h with rfl | h
            · exact e3
            · have := a1 z h; omega
          have ya' : y ∉ x :: a := fun h => by have := ya y h; omega
          rcases mg_spec ws (x :: a) b (tk ws 1 O y) h1 b2 with ⟨g1, g2⟩ | ⟨r, M, g1, g2, g3, g4, g5⟩
          · exact .inl ⟨g1, fun h => g2 fun u hu v hv => h u hu v (List.mem_cons_of_mem _ hv)⟩
          · refine .inr ⟨r, (if (1 : Int) ∈ ws then [y] else []) ++ M, g1, ?_, by rw [g3, tk_eq, List.append_assoc], asc_ife (fun e he => ?_) g4, fun e => ?_⟩
            · intro u hu v hv e
              rcases List.mem_cons.1 hv with rfl | hv
              · have := ya u hu; omega
              · exact g2 u hu v hv e
            · rcases ((g5 e).1 he).or with h | h
              · exact ya e h
              · exact b1 e h
            · rw [mem_ife, g5]
              unfold Wh
              by_cases he : e = y
              · subst he
                obtain ⟨n1, n2⟩ := not_or.1 (mt List.mem_cons.2 ya')
                simp [yb, n1, n2]
              · simp [he]
        · rw [if_neg e3]
          exact .inl ⟨rfl, fun h => e1 (h x (List.mem_cons_self ..) y (List.mem_cons_self ..) (by omega))⟩
termination_by A B => A.length + B.length
/-- the events that the walk takes -/
def slc (ws : List Int) (a b : List Ev) : List Ev := match mg ws a b [] with
  | some r => took ws r
  | none => []
theorem slc_spec {ws : List Int} {a b : List Ev} (h : may a b = 0) : Asc (slc ws a b) ∧ ∀ e, e ∈ slc ws a b ↔ Wh ws a b e := by
  obtain ⟨h1, h2, h3⟩ := may_zero.1 h
  rcases mg_spec ws a b [] (chk_zero.1 h1).2 (chk_zero.1 h2).2 with ⟨g1, g2⟩ | ⟨r, M, g1, g2, g3, g4, g5⟩
  · exact absurd h3 g2
  · unfold slc
    rw [g1]
    dsimp only
    rw [g3, List.nil_append]
    exact ⟨g4, g5⟩
theorem posF_spec (l : List Ev) (t : Int) : ∀ (k i : Nat), i + k = l.length → (∀ j, j < i → (l[j]!).T < t) → (∀ j, j < posF l t i k → (l[j]!).T < t) ∧ (posF l t i k < l.length → ¬ (l[posF l t i k]!).T < t)
  | 0, i, h, hb => ⟨hb, fun h2 => by unfold posF at h2; omega⟩
  | k + 1, i, h, hb => by
    unfold posF
    by_cases hlt : (l[i]!).T < t
    · rw [if_pos hlt]
      exact posF_spec l t k (i + 1) (by omega) fun j hj => by
        by_cases e : j = i
        · subst e; exact hlt
        · exact hb j (by omega)
    · rw [if_neg hlt]; exact ⟨hb, fun _ => hlt⟩
theorem mem_ins {l : List Ev} {e x : Ev} : x ∈ ins l e ↔ x ∈ l ∨ x = e := by
  unfold ins
  rw [List.mem_append, List.mem_append, List.mem_singleton]
  have : x ∈ l ↔ x ∈ l.take (pos l e.T) ∨ x ∈ l.drop (pos l e.T) := by
    conv => lhs; rw [← List.take_append_drop (pos l e.T) l]
    exact List.mem_append
  rw [this]
  constructor
  · rintro (h | h | h)
    · exact .inl (.inl h)
    · exact .inr h
    · exact .inl (.inr h)
  · rintro ((h | h) | h)
    · exact .inl h
    · exact .inr (.inr h)
    · exact .inr (.inl h)
theorem asc_ins {l : List Ev} {e : Ev} (h : Asc l) (hn : ∀ x ∈ l, x.T ≠ e.T) : Asc (ins l e) := by
  obtain ⟨p1, p2⟩ := posF_spec l e.T l.length 0 (by omega) (fun j hj => absurd hj (Nat.not_lt_zero j))
  have hle := posF_le l e.T l.length 0
  have ht : ∀ x ∈ l.take (pos l e.T), x.T < e.T := fun x hx => by
    obtain ⟨i, hi, rfl⟩ := List.mem_iff_getElem.1 hx
    rw [List.length_take] at hi
    rw [List.getElem_take]
    have := p1 i (by unfold pos at hi; omega)
    rwa [getElem!_pos l i (by omega)] at this
  have hd : ∀ x ∈ l.drop (pos l e.T), e.T < x.T := fun x hx => by
    obtain ⟨i, hi, rfl⟩ := List.mem_iff_getElem.1 hx
    rw [List.length_drop] at hi
    rw [List.getElem_drop]
    have hpl : pos l e.T < l.length := by omega
    have h0 := p2 hpl
    rw [show posF l e.T 0 l.length = pos l e.T from rfl, getElem!_pos l _ hpl] at h0
    have h1 := hn _ (List.getElem_mem hpl)
    rcases Nat.eq_zero_or_pos i with rfl | hi0
    · have : l[pos l e.T + 0] = l[pos l e.T] := rfl
      rw [this]; omega
    · have := List.pairwise_iff_getElem.1 h (pos l e.T) (pos l e.T + i) hpl (by omega) (by omega)
      omega
  unfold ins
  refine List.pairwise_append.2 ⟨h.sublist (List.take_sublist _ _), List.pairwise_cons.2 ⟨hd, h.sublist (List.drop_sublist _ _)⟩, fun x hx y hy => ?_⟩
  have h1 := ht x hx
  rcases List.mem_cons.1 hy with rfl | hy
  · exact h1
  · have := hd y hy; omega
theorem two_spec (a : List Ev) : ∀ (b O : List Ev), Asc O → Asc b → (∀ e ∈ b, (∀ x ∈ a, x.T ≠ e.T) → ∀ o ∈ O, o.T ≠ e.T) → Asc (b.foldl (step a) O) ∧ ∀ e, e ∈ b.foldl (step a) O ↔ e ∈ O ∨ (e ∈ b ∧ ∀ x ∈ a, x.T ≠ e.T)
  | [], O, h1, _, _ => ⟨h1, fun e => by simp⟩
  | y :: b, O, h1, h2, h3 => by
    obtain ⟨b1, b2⟩ := List.pairwise_cons.1 h2
    rw [List.foldl_cons]
    unfold step
    by_cases hi : 0 ≤ ix a y.T
    · rw [if_pos hi]
      obtain ⟨z, z1, z2⟩ := ix_iff.1 hi
      obtain ⟨g1, g2⟩ := two_spec a b O h1 b2 (fun e he => h3 e (List.mem_cons_of_mem _ he))
      refine ⟨g1, fun e => ?_⟩
      have hg := g2 e
      unfold step at hg
      rw [hg, List.mem_cons]
      constructor
      · rintro (h | ⟨h, h'⟩)
        · exact .inl h
        · exact .inr ⟨.inr h, h'⟩
      · rintro (h | ⟨rfl | h, h'⟩)
        · exact .inl h
        · exact absurd z2 (h' z z1)
        · exact .inr ⟨h, h'⟩
    · rw [if_neg hi]
      have hn : ∀ x ∈ a, x.T ≠ y.T := fun x hx e => hi (ix_iff.2 ⟨x, hx, e⟩)
      have ho := h3 y (List.mem_cons_self ..) hn
      obtain ⟨g1, g2⟩ := two_spec a b (ins O y) (asc_ins h1 ho) b2 (fun e he hx o hm => by
        rcases mem_ins.1 hm with h | rfl
        · exact h3 e (List.mem_cons_of_mem _ he) hx o h
        · have := b1 e he; omega)
      refine ⟨g1, fun e => ?_⟩
      have hg := g2 e
      unfold step at hg
      rw [hg, mem_ins, List.mem_cons]
      constructor
      · rintro ((h | rfl) | ⟨h, h'⟩)
        · exact .inl h
        · exact .inr ⟨.inl rfl, hn⟩
        · exact .inr ⟨.inr h, h'⟩
      · rintro (h | ⟨rfl | h, h'⟩)
        · exact .inl (.inl h)
        · exact .inl (.inr rfl)
        · exact .inr ⟨h, h'⟩
theorem two_of {a b : List Ev} (h : may a b = 0) : Asc (two a b) ∧ ∀ e, e ∈ two a b ↔ e ∈ a ∨ e ∈ b := by
  obtain ⟨h1, h2, h3⟩ := may_zero.1 h
  obtain ⟨g1, g2⟩ := two_spec a b a (chk_zero.1 h1).2 (chk_zero.1 h2).2 (fun _ _ h => h)
  refine ⟨g1, fun e => (g2 e).trans ⟨fun h => h.imp_right And.left, fun h => ?_⟩⟩
  rcases h with h | h
  · exact .inl h
  · by_cases he : e ∈ a
    · exact .inl he
    · exact .inr ⟨h, fun x hx ht => he (by rw [← h3 x hx e h ht]; exact hx)⟩
theorem slc_two {a b : List Ev} (h : may a b = 0) : slc [0, 1, 2] a b = two a b := by
  obtain ⟨s1, s2⟩ := slc_spec (ws := [0, 1, 2]) h
  obtain ⟨t1, t2⟩ := two_of h
  refine asc_ext s1 t1 fun e => ?_
  rw [s2, t2]
  unfold Wh
  by_cases h1 : e ∈ a <;> by_cases h2 : e ∈ b <;> simp [h1, h2]
end Mrg
end Go.Proofs.YtkoijdmlehkhbaaGreatDoor
