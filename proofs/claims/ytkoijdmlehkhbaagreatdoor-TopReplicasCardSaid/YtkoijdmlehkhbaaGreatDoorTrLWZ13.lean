/- Part 13 of what the law's proof needs: rules of the walk, contracts of functions, plain laws. No condition. -/
import Derived.Test.YtkoijdmlehkhbaaGreatDoorTrLWZ12
set_option linter.unusedSimpArgs false
set_option linter.unusedVariables false
set_option linter.unusedSectionVars false
set_option maxRecDepth 20000
set_option maxHeartbeats 4000000
namespace Go.Proofs.YtkoijdmlehkhbaaGreatDoor
open Go Go.J
attribute [local irreducible] At AtQ AtM AtM1 PR Ct Pu Rd Res.blk Res.own Res.ex RVs RV
namespace Tr
open Slot Ti Se St Win Gr Sv
open Fo hiding pt emp
def big (K : Cfg) : Prop := K.ok ∧ Conf.szv K.r K.x K.y K.w K.c K.g ≤ 16777216
instance (K : Cfg) : Decidable (big K) := by unfold big; infer_instance
theorem sizeN {r a b d x y w c g : Int} (h : ¬ Conf.Ok r a b d x y w c g) : Pu Tryz.prog 101 #[Conf.kv r a b d x y w c g] (.tuple #[.int .i64 0, .int .i64 2]) := Pu.intro fun m => by
  have k1 := Conf.checkN h
  clear h
  refine Ct.enterV (by rfl) Tryz.func101 rfl Tryz.ntmps101 rfl (fun w0 Rest => ?_)
  (repeat' (first | refine zss ?_ | refine zs0 ?_ | ((with_reducible first | apply AtM1.callp | apply AtQ.callp | apply At.callp); kernel_rfl; exact rfl; exact rfl; exact k1) | ((with_reducible apply At.box (d := 1)); exact rfl; exact rfl; exact rfl; intro b1) | (refine zsp ?_ ?_ <;> (intro hc; (try simp only [zhcs, reduceCtorEq] at hc); (try (exfalso; first | (first | omega | exact absurd rfl hc) | contradiction | omega | exact absurd rfl hc | exact absurd (by decide) hc))))))
  all_goals ((with_reducible apply At.retV (B := [])); exact rfl; (repeat' (first | exact RVs.nil | (with_reducible apply RVs.cons) | exact rv_tmp (by rfl) | exact rv_cellN (by rfl) (by repeat constructor) (by rfl) (by rfl) (by rfl) | exact rv_cell1 (by rfl) (by repeat constructor) (by rfl) (by rfl))); exact zml; exact zkp; exact ⟨rfl, rfl, rfl⟩)
theorem newN {m : Mem} (K : Cfg) (h : ¬ big K) : Ct Tryz.prog 51 #[K.v] m [] (fun v m' B => B = [] ∧ ∃ w, v = .tuple #[Sta.z.v, .int .i64 w] ∧ w ≠ 0) := by
  have k : ∃ n w, Pu Tryz.prog 101 #[K.v] (.tuple #[.int .i64 n, .int .i64 w]) ∧ w ≠ 0 := by
    by_cases hK : K.ok
    · have k1 := Conf.sizeF hK
      rw [if_pos (by have : ¬ Conf.szv K.r K.x K.y K.w K.c K.g ≤ 16777216 := fun e => h ⟨hK, e⟩; omega)] at k1
      exact ⟨0, 1, k1, by decide⟩
    · exact ⟨0, 2, sizeN hK, by decide⟩
  obtain ⟨n, w, k1, hw⟩ := k
  clear h
  refine Ct.enterV (by rfl) Tryz.func51 rfl Tryz.ntmps51 rfl (fun w0 Rest => ?_)
  (repeat' (first | refine zss ?_ | refine zs0 ?_ | ((with_reducible first | apply AtM1.callp | apply AtQ.callp | apply At.callp); kernel_rfl; exact rfl; exact rfl; exact k1) | ((with_reducible apply At.box (d := 1)); exact rfl; exact rfl; exact rfl; intro b1) | ((with_reducible apply At.alloc (d := 2)); exact rfl; exact rfl; intro b2) | (refine zsp ?_ ?_ <;> (intro hc; (try simp only [zhcs, reduceCtorEq] at hc); (try (exfalso; first | (first | omega | exact absurd hc hw) | contradiction | omega | exact absurd rfl hc | exact absurd (by decide) hc))))))
  all_goals ((with_reducible apply At.retV (B := [])); exact rfl; (repeat' (first | exact RVs.nil | (with_reducible apply RVs.cons) | exact rv_tmp (by rfl) | exact rv_cellN (by rfl) (by repeat constructor) (by rfl) (by rfl) (by rfl) | exact rv_cell1 (by rfl) (by repeat constructor) (by rfl) (by rfl))); exact zml; exact zkp; exact ⟨rfl, w, rfl, hw⟩)
theorem newC {m : Mem} (K : Cfg) (h : big K) : Ct Tryz.prog 51 #[K.v] m [] (fun v m' B => B = [] ∧ ∃ u : Sta, v = .tuple #[u.v, .int .i64 0] ∧ u.Ok m' ∧ RI K [] u ∧ u.now = 0) := by
  have hc := h.1.hc
  have hn : ((K.c.toNat : Nat) : Int) = K.c := by omega
  refine Ct.mono (new (m := m) K K.c.toNat h.1 hn h.2) fun v m' B _ ⟨h1, p, c, h2, h3⟩ => ⟨h1, _, h2, ?_, RI.new h.1 hn p c, rfl⟩
  exact ⟨h3, fun x hx => by rw [List.eq_of_mem_replicate hx]; exact zok m', by show (List.replicate _ _).length ≤ _; rw [List.length_replicate]; omega, ⟨by show -9223372036854775808 ≤ (0 : Int); decide, by show (0 : Int) ≤ 9223372036854775807; decide⟩, ⟨by show -9223372036854775808 ≤ (-1 : Int); decide, by show (-1 : Int) ≤ 9223372036854775807; decide⟩⟩
/-- what fits -/
def ft (K : Cfg) : Prop := big K ∧ K.c ≤ 8 ∧ K.r ≤ 60 ∧ K.x ≤ 40 ∧ K.y ≤ 40 ∧ K.w ≤ 40
instance (K : Cfg) : Decidable (ft K) := by unfold ft; infer_instance
theorem fits_ {m : Mem} (K : Cfg) : Rd Tryz.prog 17 #[K.v] m [] (.bool (decide (ft K))) := Ti.rd_le (by
  by_cases h : big K
  rotate_left
  · rw [decide_eq_false (fun e : ft K => h e.1)]
    have k0 := fun (m' : Mem) => newN (m := m') K h
    refine Ct.enterV (by rfl) Tryz.func17 rfl Tryz.ntmps17 rfl (fun w0 Rest => ?_)
    (repeat' (first | refine zss ?_ | refine zs0 ?_ | ((with_reducible first | apply At.c1 | apply At.c0); exact rfl; exact rfl; exact k0 _; exact ztk; kernel_rfl; rintro v' m' B' hm' ⟨rfl, w, rfl, hw⟩; skip; (try (have hq0 : hm' = Mem.le_refl _ := rfl; clear hq0 hm'))) | ((with_reducible apply At.box (d := 1)); exact rfl; exact rfl; exact rfl; intro b1) | ((with_reducible apply At.alloc (d := 3)); exact rfl; exact rfl; intro b3) | (refine zsp ?_ ?_ <;> (intro hc; (try simp only [zhcs, reduceCtorEq] at hc); (try (exfalso; first | (first | omega | exact absurd hc hw | exact hw hc) | contradiction | omega | exact absurd rfl hc | exact absurd (by decide) hc))))))
    all_goals ((with_reducible apply At.retB1 (B := [])); exact rfl; exact rfl; exact zml; exact zkp; exact ⟨rfl, zml, rfl⟩)
  have k0 := fun (m' : Mem) => newC (m := m') K h
  refine Ct.enterV (by rfl) Tryz.func17 rfl Tryz.ntmps17 rfl (fun w0 Rest => ?_)
  (repeat' (first | refine zss ?_ | ((first | (with_reducible first | apply At.val | apply AtQ.val)); (first | exact pr_indexArr (k := 0) (by rfl) (by rfl) (by rfl) (by rfl) (by decide) | exact pr_indexArr (k := 1) (by rfl) (by rfl) (by rfl) (by rfl) (by decide) | exact pr_indexArr (k := 2) (by rfl) (by rfl) (by rfl) (by rfl) (by decide)); exact rfl) | refine zs0 ?_ | ((with_reducible first | apply At.c1 | apply At.c0); exact rfl; exact rfl; exact k0 _; exact ztk; kernel_rfl; rintro v' m' B' hm' ⟨rfl, u, rfl, hu, hR, hn⟩; skip; (try (have hq0 : hm' = Mem.le_refl _ := rfl; clear hq0 hm'))) | ((with_reducible apply At.box (d := 1)); exact rfl; exact rfl; exact rfl; intro b1) | ((with_reducible apply At.alloc (d := 3)); exact rfl; exact rfl; intro b3) | (refine zsp ?_ ?_ <;> (intro hc; (try simp only [zhcs, reduceCtorEq] at hc); (try (exfalso; first | (first | omega | exact absurd rfl hc) | contradiction | omega | exact absurd rfl hc | exact absurd (by decide) hc))))))
  all_goals
    have hlen := hR.len
    ((with_reducible apply At.retB1 (B := [])); exact rfl; exact rfl; exact zml; exact zkp; exact ⟨congrArg Value.bool (by
      first
      | (refine decide_eq_decide.2 ⟨fun h' => ⟨h, ?_, ?_, ?_, ?_, h'⟩, fun h' => h'.2.2.2.2.2⟩ <;> omega)
      | (refine (decide_eq_false fun h' => ?_).symm; obtain ⟨_, a1, a2, a3, a4, a5⟩ := h'; omega)), zml, rfl⟩))
set_option maxRecDepth 100000 in
theorem seen {m : Mem} (K : Cfg) (p : Option Addr) (c : Nat) (l : List Ev) (g : FuncId) (caps : List Value) (R0 : Res) (q : Nat → Bool) (hK : big K) (hG : Gr.Good l) (hS : ∀ e ∈ l, e.S = false) (hl : l.length ≤ 1000) (hg : goFn Tryz.prog g = true)
    (hq : ∀ m', m.le m' → ∀ i : Nat, i < l.length → Ct Tryz.prog g (.int .i64 (i : Int) :: caps).toArray m' [R0] (fun v m'' B => v = .bool (q i) ∧ m' = m'' ∧ B = [R0])) (sl0 : Sl m Ev.cells 4 p c l) :
    Ct Tryz.prog 19 #[K.v, .slice p l.length c, .func (.func g) #[] caps.toArray] m [R0] (fun v m' B => B = [R0] ∧ ∃ u : Sta, v = .tuple #[u.v, .bool true] ∧ u.Ok m' ∧ RI K (pk q l l.length) u) := by
  have k0 := fun (m' : Mem) => newC (m := m') K hK
  refine Ct.enterV (by rfl) Tryz.func19 rfl Tryz.ntmps19 rfl (fun w0 Rest => ?_)
  (repeat' (first | refine zss ?_ | refine zsM ?_ | ((with_reducible first | apply At.c1 | apply At.c0); exact rfl; exact rfl; exact k0 _; exact ztk; kernel_rfl; rintro v' m' B' hm' ⟨rfl, u0, rfl, hu, hR, hn⟩; (try replace sl0 := sl0.mono hm'); (try replace sl2 := sl2.mono hm'); (try (have hq0 : hm' = Mem.le_refl _ := rfl; clear hq0 hm'))) | ((with_reducible apply At.box (d := 3)); exact rfl; exact rfl; exact rfl; intro b3) | ((with_reducible apply At.alloc (d := 6)); exact rfl; exact rfl; intro b6) | ((with_reducible apply At.alloc (d := 8)); exact rfl; exact rfl; intro b8) | ((with_reducible apply At.alloc (d := 11)); exact rfl; exact rfl; intro b11) | ((with_reducible apply At.alloc (d := 12)); exact rfl; exact rfl; intro b12) | (refine zsp ?_ ?_ <;> (intro hc; (try simp only [zhcs, reduceCtorEq] at hc); (try (exfalso; first | (first | omega | exact absurd rfl hc) | contradiction | omega | exact absurd rfl hc | exact absurd (by decide) hc))))))
  rw [show ([] : List Ev) = pk q l 0 from rfl] at hR
  (refine At.loopk (σ := SN) [2, 6, 8, 22, 23] (fun s F0 => (24, .int .i64 (s.k : Int)) :: F0) (fun s => s.mm) (fun s => .blk b8 28 s.u.cells :: .blk b6 28 Sta.z.cells :: .blk b3 25 K.cells :: R0 :: Rest) (fun s => m'.le s.mm ∧ s.k ≤ l.length ∧ s.u.Ok s.mm ∧ RI K (pk q l s.k) s.u ∧ s.u.now = (if s.k = 0 then 0 else (l[s.k - 1]!).T)) (fun s => l.length - s.k) ⟨0, m', u0⟩ (by rfl) ?_ zsubs zml zente ?_)
  · exact ⟨Mem.le_refl _, Nat.zero_le _, hu, hR, hn⟩
  clear hu hR hn k0
  rintro ⟨k, m1, u⟩ ⟨hm1, hk, hu, hR, hn⟩
  dsimp only at hm1 hk hu hR hn ⊢
  replace sl0 := sl0.mono hm1
  by_cases hkl : k < l.length
  rotate_left
  · obtain rfl : k = l.length := by omega
    clear hq hG hS
    (repeat' (first | refine zss ?_ | refine zsM ?_ | ((with_reducible apply At.box (d := 3)); exact rfl; exact rfl; exact rfl; intro b3) | ((with_reducible apply At.alloc (d := 6)); exact rfl; exact rfl; intro b6) | ((with_reducible apply At.alloc (d := 8)); exact rfl; exact rfl; intro b8) | ((with_reducible apply At.alloc (d := 11)); exact rfl; exact rfl; intro b11) | ((with_reducible apply At.alloc (d := 12)); exact rfl; exact rfl; intro b12) | (refine zsp ?_ ?_ <;> (intro hc; (try simp only [zhcs, reduceCtorEq] at hc); (try (exfalso; first | (first | omega | exact absurd rfl hc) | contradiction | omega | exact absurd rfl hc | exact absurd (by decide) hc))))))
    all_goals ((with_reducible apply At.retV (B := [R0])); exact rfl; (repeat' (first | exact RVs.nil | (with_reducible apply RVs.cons) | exact rv_tmp (by rfl) | exact rv_cellN (by rfl) (by repeat constructor) (by rfl) (by rfl) (by rfl) | exact rv_cell1 (by rfl) (by repeat constructor) (by rfl) (by rfl))); exact zml; exact zkp; exact ⟨rfl, u, rfl, hu.mono zml, hR⟩)
  have hm2 : m.le m1 := Mem.le_trans (by assumption) hm1
  have hem := Ls.mem! hkl
  have heo := (hG.1 _ hem).1
  have hbT : 0 ≤ (l[k]!).T ∧ (l[k]!).T < 35184372088832 := ⟨heo.1, heo.2.1⟩
  have hnow : u.now ≤ (l[k]!).T := by
    rw [hn]
    split
    · exact hbT.1
    · have := List.pairwise_iff_getElem.1 hG.2 (k - 1) k (by omega) hkl (by omega)
      rw [← getElem!_pos l (k - 1) (by omega), ← getElem!_pos l k hkl] at this
      omega
  have hsu := pk_succ q l k
  obtain ⟨t1, t2⟩ := hR.tk hnow hbT.2
  have t3 := tk_ok hu hbT
  have k1 := fun (m' : Mem) (h : m1.le m') => tick (m := m') u (l[k]!).T hbT.2 (hu.mono h) hR.okU
  have k2 := hq m1 hm2 k hkl
  have hGe : q k = true → Gr.Good (pk q l k ++ [l[k]!]) := fun e => by
    rw [if_pos e] at hsu
    rw [← hsu]
    exact hG.sub ((pk_sub q l (k + 1) hkl).trans (List.take_sublist _ _))
  have hle : (pk q l k).length ≤ 1000000 := by
    have := (pk_sub q l k hk).length_le
    rw [List.length_take] at this
    omega
  generalize tkU u (l[k]!).T = u1 at k1 t1 t2 t3
  generalize (!decide ((l[k]!).T ≤ u.now)) = gg at k1
  clear hR hu hnow hn
  cases hqk : q k
  · rw [hqk] at k2 hsu
    rw [if_neg (by decide), List.append_nil] at hsu
    rw [← hsu] at t1
    clear hq hG hS hGe
    (repeat' (first | refine zss ?_ | refine zsM ?_ | ((with_reducible first | apply AtM1.cr | apply AtQ.cr | apply At.cr); exact rfl; exact rfl; exact fun _ hmm => k1 _ hmm; exact ztk; kernel_rfl) | ((with_reducible apply At.callf); exact rfl; exact hg; exact rfl; exact rfl; exact k2; exact ztk; rintro v' m' B' hm' ⟨rfl, rfl, rfl⟩) | ((with_reducible apply At.box (d := 3)); exact rfl; exact rfl; exact rfl; intro b3) | ((with_reducible apply At.alloc (d := 6)); exact rfl; exact rfl; intro b6) | ((with_reducible apply At.alloc (d := 8)); exact rfl; exact rfl; intro b8) | ((with_reducible apply At.alloc (d := 11)); exact rfl; exact rfl; intro b11) | ((with_reducible apply At.alloc (d := 12)); exact rfl; exact rfl; intro b12) | (refine zsp ?_ ?_ <;> (intro hc; (try simp only [zhcs, reduceCtorEq] at hc); (try (exfalso; first | (first | omega | exact absurd rfl hc) | contradiction | omega | exact absurd rfl hc | exact absurd (by decide) hc))))))
    all_goals ((with_reducible refine At.reachk ((⟨k + 1, m1, u1⟩ : SN)) ?_ ?_ ?_ ?_); exact zsubs; exact zml; exact zente; exact ⟨⟨hm1, hkl, t3, t1, by show _ = if k + 1 = 0 then _ else _; rw [if_neg (by omega), Nat.add_sub_cancel]; exact t2⟩, by show l.length - (k + 1) < l.length - k; omega⟩)
  · rw [hqk] at k2 hsu
    rw [if_pos rfl] at hsu
    have k3 := fun (m' : Mem) (h : m1.le m') (p : Option Addr) (c : Nat) (sl : _) => one_ (m := m') K (pk q l k) u1 l[k]! p c t1 (t3.mono h) (hGe hqk) (hS _ hem) t2.symm hle sl
    rw [← hsu] at k3
    clear hq hG hS hGe t1 t3
    (repeat' (first | refine zss ?_ | refine zsM ?_ | ((with_reducible first | apply AtM1.cr | apply AtQ.cr | apply At.cr); exact rfl; exact rfl; exact fun _ hmm => k1 _ hmm; exact ztk; kernel_rfl) | ((with_reducible apply At.callf); exact rfl; exact hg; exact rfl; exact rfl; exact k2; exact ztk; rintro v' m' B' hm' ⟨rfl, rfl, rfl⟩) | ((with_reducible apply At.litF Lb.cells la); exact inferInstance; (iterate 7 exact rfl); intro b' m' hm' sl2; (try replace sl0 := sl0.mono hm')) | ((with_reducible first | apply At.c1 | apply At.c0); exact rfl; exact rfl; exact k3 _ zml _ _ sl2; exact ztk; kernel_rfl; rintro v' m' B' hm' ⟨rfl, u2, rfl, hu2, hR2, hn2⟩; (try replace sl0 := sl0.mono hm'); (try replace sl2 := sl2.mono hm'); (try (have hq0 : hm' = Mem.le_refl _ := rfl; clear hq0 hm'))) | ((with_reducible apply At.box (d := 3)); exact rfl; exact rfl; exact rfl; intro b3) | ((with_reducible apply At.alloc (d := 6)); exact rfl; exact rfl; intro b6) | ((with_reducible apply At.alloc (d := 8)); exact rfl; exact rfl; intro b8) | ((with_reducible apply At.alloc (d := 11)); exact rfl; exact rfl; intro b11) | ((with_reducible apply At.alloc (d := 12)); exact rfl; exact rfl; intro b12) | (refine zsp ?_ ?_ <;> (intro hc; (try simp only [zhcs, reduceCtorEq] at hc); (try (exfalso; first | (first | omega | exact absurd rfl hc) | contradiction | omega | exact absurd rfl hc | exact absurd (by decide) hc))))))
    all_goals ((with_reducible refine At.reachk ((⟨k + 1, m', u2⟩ : SN)) ?_ ?_ ?_ ?_); exact zsubs; exact zml; exact zente; exact ⟨⟨zml, hkl, hu2, hR2, by show _ = if k + 1 = 0 then _ else _; rw [if_neg (by omega), Nat.add_sub_cancel]; exact hn2.trans t2⟩, by show l.length - (k + 1) < l.length - k; omega⟩)
end Tr
end Go.Proofs.YtkoijdmlehkhbaaGreatDoor
namespace Go.Proofs.YtkoijdmlehkhbaaGreatDoor
open Go Go.J
namespace Gr
open Cell Ti Fo
/-- all windows lie below -/
def Bel (l : List Slot) (x : Int) : Prop := ∀ s ∈ l, keep s = true → s.w < x
theorem Bel.le {l : List Slot} {x y : Int} (h : Bel l x) (hxy : x ≤ y) : Bel l y := fun s hs ks => by have := h s hs ks; omega
end Gr
end Go.Proofs.YtkoijdmlehkhbaaGreatDoor
namespace Go.Proofs.YtkoijdmlehkhbaaGreatDoor
open Go Go.J
attribute [local irreducible] At AtQ AtM AtM1 PR Ct Pu Rd Res.blk Res.own Res.ex RVs RV
namespace Sv
open Slot Ti Gr Se
open Fo hiding pt
theorem quo_nn {x w : Int} (h : 0 ≤ x ∧ x ≤ 9223372036854775807) (hw : 1 ≤ w) : IntKind.wrap .i64 (x.tdiv w) = x / w := by
  have h2 := Int.ediv_nonneg h.1 (show 0 ≤ w by omega)
  have h3 := Int.ediv_le_self w h.1
  rw [Int.tdiv_eq_ediv_of_nonneg h.1]
  exact IntWalk.i64_in _ (by omega)
/-- what a call of an open series answers, and leaves -/
abbrev Post (q : Nat) (K : Cfg) (x : Ser) (m : Mem) (c : Cell) : Value → Mem → List Res → Prop := fun v m' B => v = .tuple #[c.v, .int .i64 0] ∧ m = m' ∧ B = kb q K x
theorem now0 {m : Mem} (q : Nat) (K : Cfg) (x : Ser) (es : List Ev) (h : SI K es x) (hn : es ≠ []) :
    Ct Tryz.prog 125 #[pt q, .int .i64 0] m (kb q K x) (Post q K x m (G K.a es (lastT es / K.a))) := by
  have e : x.op.c = G K.a es (lastT es / K.a) := congrArg Slot.c (h.inv.open_ hn).1
  rw [← e]
  clear e h
  refine Ct.enterV (by rfl) Tryz.func125 rfl Tryz.ntmps125 rfl (fun w0 Rest => ?_)
  (repeat' (first | refine zss ?_ | refine zsM ?_ | ((with_reducible apply At.alloc (d := 4)); exact rfl; exact rfl; intro b4) | ((with_reducible apply At.alloc (d := 7)); exact rfl; exact rfl; intro b7) | ((with_reducible apply At.alloc (d := 9)); exact rfl; exact rfl; intro b9) | (refine zsp ?_ ?_ <;> (intro hc; (try simp only [zhcs, reduceCtorEq] at hc); (try (exfalso; first | omega | contradiction | omega | exact absurd rfl hc | exact absurd (by decide) hc))))))
  all_goals ((with_reducible apply At.retV (B := kb q K x)); exact rfl; (repeat' (first | exact RVs.nil | (with_reducible apply RVs.cons) | exact rv_tmp (by rfl) | exact rv_cellN (by rfl) (by repeat constructor) (by rfl) (by rfl) (by rfl) | exact rv_cell1 (by rfl) (by repeat constructor) (by rfl) (by rfl))); exact zml; exact zkp; exact ⟨rfl, rfl, rfl⟩)
theorem G_in {w : Int} {es : List Ev} {i : Int} (hG : Gr.Good es) : Cell.In (G w es i) := cel_in (hG.sub (win_sub _ _ _))
theorem now1 {m : Mem} (q : Nat) (K : Cfg) (x : Ser) (es : List Ev) (h : SI K es x) (ho : x.Ok m) (hn : es ≠ []) :
    Ct Tryz.prog 125 #[pt q, .int .i64 1] m (kb q K x) (Post q K x m (G K.b es (lastT es / K.b))) := by
  obtain ⟨hl, hp1, hp2⟩ := h.pos hn
  obtain ⟨f, ef, eW, g1, g2⟩ := (cfg_f h.inv.ok).1
  have hG := h.inv.g
  have hw := h.inv.ok.ha
  have hW := h.inv.ok.hb
  have hLv := h.inv.a
  obtain ⟨c, h1, h2⟩ := now_step hLv hG hw.1 g1 g2 (last_bd hG hn).1 (fun e he => le_last hG he)
  rw [← eW, ← hl] at h1 h2
  rw [← hl]
  change foldC x.t0.l _ _ = _ at h1
  have k1 := fun (m' : Mem) (hm : m.le m') => fold_ (m := m') x.t0.p x.t0.c x.t0.l (x.last / K.b * f) (x.last / K.a) (ho.i0) (okT_dis hLv.ok) ho.n0 (ho.s0.mono hm)
  rw [h1] at k1
  have k2 := fun (m' : Mem) (hm : m.le m') => now0 (m := m') q K x es h hn
  rw [← hl] at k2
  have hci : Cell.In c := by
    have := foldC_in ho.i0 (x.last / K.b * f) (x.last / K.a)
    rw [h1] at this
    exact this
  have k3 := Cell.merge c (G K.a es (x.last / K.a)) hci (G_in hG)
  rw [h2] at k3
  have hb1 := Int.ediv_nonneg hp1 (show 0 ≤ K.b by omega)
  have hb2 : x.last / K.b * f ≤ x.last / K.a := by
    rw [eW, div_div (by omega)]
    exact Int.ediv_mul_le _ (by omega)
  have hb3 := Int.ediv_le_self K.a hp1
  have hb4 := Int.mul_nonneg hb1 (show 0 ≤ f by omega)
  have hq1 : IntKind.wrap .i64 (x.last.tdiv K.b) = x.last / K.b := quo_nn (by omega) hW.1
  have hq2 : IntKind.wrap .i64 (K.b.tdiv K.a) = f := by rw [quo_nn (by omega) hw.1, ef]
  have hq3 : IntKind.wrap .i64 (x.last.tdiv K.a) = x.last / K.a := quo_nn (by omega) hw.1
  have hm1 : IntKind.wrap .i64 (x.last / K.b * f) = x.last / K.b * f := IntWalk.i64_in _ (by omega)
  have hk1 : IntKind.wrap .i64 (1 - 1) = 1 - 1 := by decide
  have hW0 : K.b ≠ 0 := by omega
  have hw0 : K.a ≠ 0 := by omega
  clear h1 h2 hci hb1 hb2 hb3 hb4 hLv hG h ho hl hp1 hp2 ef eW g1 g2 hw hW
  generalize x.last / K.b = A at *
  generalize x.last / K.a = B at *
  generalize G K.a es B = C1 at *
  generalize G K.b es A = C2 at *
  refine Ct.enterV (by rfl) Tryz.func125 rfl Tryz.ntmps125 rfl (fun w0 Rest => ?_)
  (repeat' (first | ((with_reducible apply At.mixed (id := 4) 30 (.q 0 (.q 1 (.q 2 (.q 3 (.q 4 (.q 5 (.q 6 (.q 7 (.q 8 (.q 9 (.q 10 (.q 11 (.q 12 (.q 13 (.q 14 (.q 15 (.q 16 (.q 17 (.q 18 (.q 19 (.q 20 (.q 21 (.q 22 (.b 23 27 (.q 24 (.q 25 (.q 26 (.l 27 (.x 28 (.q 29 .done)))))) (.l 23 (.q 24 (.q 25 (.q 26 (.x 28 (.q 29 .done))))))))))))))))))))))))))))))); exact rfl; kernel_rfl; kernel_rfl; kernel_rfl) | refine zsx ?_ | refine zss ?_ | ((with_reducible apply AtM.bo); exact rfl; exact rfl; exact rfl) | ((first | (with_reducible first | apply At.val | apply AtQ.val) | ((with_reducible first | apply AtM1.valz | apply AtM1.val); exact rfl) | ((with_reducible apply AtM1.val); exact rfl)); (first | exact pr_indexArr (k := 1) (by rfl) (by rfl) (by rfl) (by rfl) (by decide) | exact pr_indexArr (k := 1 - 1) (by rfl) (by rfl) (by rfl) (by rfl) (by decide) | exact pr_quo (by rfl) (by rfl) hW0 hq1 | exact pr_quo (by rfl) (by rfl) hw0 hq2 | exact pr_quo (by rfl) (by rfl) hw0 hq3 | exact pr_mul (by rfl) (by rfl) hm1 | exact pr_sub (by rfl) (by rfl) hk1); exact rfl) | refine zsM ?_ | refine zxM ?_ | ((with_reducible first | apply AtM1.cr | apply AtQ.cr | apply At.cr); exact rfl; exact rfl; exact fun _ hmm => k1 _ zml; exact ztk; kernel_rfl) | ((with_reducible first | apply At.c1 | apply At.c0); exact rfl; exact rfl; exact k2 _ zml; exact ztk; kernel_rfl; rintro v' m' B' hm' ⟨rfl, rfl, rfl⟩; skip; (try (have hq0 : hm' = Mem.le_refl _ := rfl; clear hq0 hm'))) | ((with_reducible first | apply AtM1.callp | apply AtQ.callp | apply At.callp); kernel_rfl; exact rfl; exact rfl; exact k3) | ((with_reducible apply At.alloc (d := 4)); exact rfl; exact rfl; intro b4) | ((with_reducible apply At.alloc (d := 7)); exact rfl; exact rfl; intro b7) | ((with_reducible apply At.alloc (d := 9)); exact rfl; exact rfl; intro b9) | (refine zsp ?_ ?_ <;> (intro hc; (try simp only [zhcs, reduceCtorEq] at hc); (try (exfalso; first | omega | contradiction | omega | exact absurd rfl hc | exact absurd (by decide) hc))))))
  all_goals ((with_reducible apply At.retV (B := kb q K x)); exact rfl; (repeat' (first | exact RVs.nil | (with_reducible apply RVs.cons) | exact rv_tmp (by rfl) | exact rv_cellN (by rfl) (by repeat constructor) (by rfl) (by rfl) (by rfl) | exact rv_cell1 (by rfl) (by repeat constructor) (by rfl) (by rfl))); exact zml; exact zkp; exact ⟨rfl, rfl, rfl⟩)
theorem now2 {m : Mem} (q : Nat) (K : Cfg) (x : Ser) (es : List Ev) (h : SI K es x) (ho : x.Ok m) (hn : es ≠ []) :
    Ct Tryz.prog 125 #[pt q, .int .i64 2] m (kb q K x) (Post q K x m (G K.d es (lastT es / K.d))) := by
  obtain ⟨hl, hp1, hp2⟩ := h.pos hn
  obtain ⟨f, ef, eW, g1, g2⟩ := (cfg_f h.inv.ok).2
  have hG := h.inv.g
  have hw := h.inv.ok.hb
  have hW := h.inv.ok.hd
  have hLv := h.inv.b
  obtain ⟨c, h1, h2⟩ := now_step hLv hG hw.1 g1 g2 (last_bd hG hn).1 (fun e he => le_last hG he)
  rw [← eW, ← hl] at h1 h2
  rw [← hl]
  change foldC x.t1.l _ _ = _ at h1
  have k1 := fun (m' : Mem) (hm : m.le m') => fold_ (m := m') x.t1.p x.t1.c x.t1.l (x.last / K.d * f) (x.last / K.b) (ho.i1) (okT_dis hLv.ok) ho.n1 (ho.s1.mono hm)
  rw [h1] at k1
  have k2 := fun (m' : Mem) (hm : m.le m') => now1 (m := m') q K x es h (ho.mono hm) hn
  rw [← hl] at k2
  have hci : Cell.In c := by
    have := foldC_in ho.i1 (x.last / K.d * f) (x.last / K.b)
    rw [h1] at this
    exact this
  have k3 := Cell.merge c (G K.b es (x.last / K.b)) hci (G_in hG)
  rw [h2] at k3
  have hb1 := Int.ediv_nonneg hp1 (show 0 ≤ K.d by omega)
  have hb2 : x.last / K.d * f ≤ x.last / K.b := by
    rw [eW, div_div (by omega)]
    exact Int.ediv_mul_le _ (by omega)
  have hb3 := Int.ediv_le_self K.b hp1
  have hb4 := Int.mul_nonneg hb1 (show 0 ≤ f by omega)
  have hq1 : IntKind.wrap .i64 (x.last.tdiv K.d) = x.last / K.d := quo_nn (by omega) hW.1
  have hq2 : IntKind.wrap .i64 (K.d.tdiv K.b) = f := by rw [quo_nn (by omega) hw.1, ef]
  have hq3 : IntKind.wrap .i64 (x.last.tdiv K.b) = x.last / K.b := quo_nn (by omega) hw.1
  have hm1 : IntKind.wrap .i64 (x.last / K.d * f) = x.last / K.d * f := IntWalk.i64_in _ (by omega)
  have hk1 : IntKind.wrap .i64 (2 - 1) = 2 - 1 := by decide
  have hW0 : K.d ≠ 0 := by omega
  have hw0 : K.b ≠ 0 := by omega
  clear h1 h2 hci hb1 hb2 hb3 hb4 hLv hG h ho hl hp1 hp2 ef eW g1 g2 hw hW
  generalize x.last / K.d = A at *
  generalize x.last / K.b = B at *
  generalize G K.b es B = C1 at *
  generalize G K.d es A = C2 at *
  refine Ct.enterV (by rfl) Tryz.func125 rfl Tryz.ntmps125 rfl (fun w0 Rest => ?_)
  (repeat' (first | ((with_reducible apply At.mixed (id := 4) 30 (.q 0 (.q 1 (.q 2 (.q 3 (.q 4 (.q 5 (.q 6 (.q 7 (.q 8 (.q 9 (.q 10 (.q 11 (.q 12 (.q 13 (.q 14 (.q 15 (.q 16 (.q 17 (.q 18 (.q 19 (.q 20 (.q 21 (.q 22 (.b 23 27 (.q 24 (.q 25 (.q 26 (.l 27 (.x 28 (.q 29 .done)))))) (.l 23 (.q 24 (.q 25 (.q 26 (.x 28 (.q 29 .done))))))))))))))))))))))))))))))); exact rfl; kernel_rfl; kernel_rfl; kernel_rfl) | refine zsx ?_ | refine zss ?_ | ((with_reducible apply AtM.bo); exact rfl; exact rfl; exact rfl) | ((first | (with_reducible first | apply At.val | apply AtQ.val) | ((with_reducible first | apply AtM1.valz | apply AtM1.val); exact rfl) | ((with_reducible apply AtM1.val); exact rfl)); (first | exact pr_indexArr (k := 2) (by rfl) (by rfl) (by rfl) (by rfl) (by decide) | exact pr_indexArr (k := 2 - 1) (by rfl) (by rfl) (by rfl) (by rfl) (by decide) | exact pr_quo (by rfl) (by rfl) hW0 hq1 | exact pr_quo (by rfl) (by rfl) hw0 hq2 | exact pr_quo (by rfl) (by rfl) hw0 hq3 | exact pr_mul (by rfl) (by rfl) hm1 | exact pr_sub (by rfl) (by rfl) hk1); exact rfl) | refine zsM ?_ | refine zxM ?_ | ((with_reducible first | apply AtM1.cr | apply AtQ.cr | apply At.cr); exact rfl; exact rfl; exact fun _ hmm => k1 _ zml; exact ztk; kernel_rfl) | ((with_reducible first | apply At.c1 | apply At.c0); exact rfl; exact rfl; exact k2 _ zml; exact ztk; kernel_rfl; rintro v' m' B' hm' ⟨rfl, rfl, rfl⟩; skip; (try (have hq0 : hm' = Mem.le_refl _ := rfl; clear hq0 hm'))) | ((with_reducible first | apply AtM1.callp | apply AtQ.callp | apply At.callp); kernel_rfl; exact rfl; exact rfl; exact k3) | ((with_reducible apply At.alloc (d := 4)); exact rfl; exact rfl; intro b4) | ((with_reducible apply At.alloc (d := 7)); exact rfl; exact rfl; intro b7) | ((with_reducible apply At.alloc (d := 9)); exact rfl; exact rfl; intro b9) | (refine zsp ?_ ?_ <;> (intro hc; (try simp only [zhcs, reduceCtorEq] at hc); (try (exfalso; first | omega | contradiction | omega | exact absurd rfl hc | exact absurd (by decide) hc))))))
  all_goals ((with_reducible apply At.retV (B := kb q K x)); exact rfl; (repeat' (first | exact RVs.nil | (with_reducible apply RVs.cons) | exact rv_tmp (by rfl) | exact rv_cellN (by rfl) (by repeat constructor) (by rfl) (by rfl) (by rfl) | exact rv_cell1 (by rfl) (by repeat constructor) (by rfl) (by rfl))); exact zml; exact zkp; exact ⟨rfl, rfl, rfl⟩)
/-- the number of windows of a tier -/
def Kn (K : Cfg) : Nat → Int
  | 0 => K.x
  | 1 => K.y
  | _ => K.w
/-- what is told of a range of windows -/
def rg (K : Cfg) (es : List Ev) (k : Nat) (i j : Int) : Cell := cel (sel (Kw K k) (Kn K k) (lastT es / Kw K k) es i j)
theorem span0 {m : Mem} (q : Nat) (K : Cfg) (x : Ser) (es : List Ev) (i j : Int) (h : SI K es x) (ho : x.Ok m) (hi : 0 ≤ i) (hij : i ≤ j) :
    Ct Tryz.prog 67 #[pt q, .int .i64 0, .int .i64 i, .int .i64 j] m (kb q K x) (Post q K x m (rg K es 0 i j)) := by
  by_cases hn : es = []
  · have hl : x.last = -1 := h.last.trans (if_pos hn)
    have e : rg K es 0 i j = Cell.z := by subst hn; rfl
    rw [e]
    clear h ho e
    refine Ct.enterV (by rfl) Tryz.func67 rfl Tryz.ntmps67 rfl (fun w0 Rest => ?_)
    (repeat' (first | refine zss ?_ | refine zsM ?_ | ((with_reducible apply At.alloc (d := 8)); exact rfl; exact rfl; intro b8) | ((with_reducible apply At.alloc (d := 11)); exact rfl; exact rfl; intro b11) | ((with_reducible apply At.alloc (d := 13)); exact rfl; exact rfl; intro b13) | (refine zsp ?_ ?_ <;> (intro hc; (try simp only [zhcs, reduceCtorEq] at hc); (try (exfalso; first | omega | contradiction | omega | exact absurd rfl hc | exact absurd (by decide) hc))))))
    all_goals ((with_reducible apply At.retV (B := kb q K x)); exact rfl; (repeat' (first | exact RVs.nil | (with_reducible apply RVs.cons) | exact rv_tmp (by rfl) | exact rv_cellN (by rfl) (by repeat constructor) (by rfl) (by rfl) (by rfl) | exact rv_cell1 (by rfl) (by repeat constructor) (by rfl) (by rfl))); exact zml; exact zkp; exact ⟨congrArg (fun v => Value.tuple #[v, .int .i64 0]) Cell.zv, rfl, rfl⟩)
  obtain ⟨hl, hp1, hp2⟩ := h.pos hn
  have hG := h.inv.g
  have hW := h.inv.ok.ha
  have hLv := h.inv.a
  have hmax := fun e he => le_win (w := K.a) hG hW.1 (e := e) he
  have hq1 : IntKind.wrap .i64 (x.last.tdiv K.a) = x.last / K.a := quo_nn (by omega) hW.1
  have hW0 : K.a ≠ 0 := by omega
  show Ct _ _ _ _ _ (Post q K x m (cel (sel K.a K.x (lastT es / K.a) es i j)))
  have k1 := fun (m' : Mem) (hm : m.le m') => fold_ (m := m') x.t0.p x.t0.c x.t0.l i j (ho.i0) (okT_dis hLv.ok) ho.n0 (ho.s0.mono hm)
  have k2 := fun (m' : Mem) (hm : m.le m') => now0 (m := m') q K x es h hn
  by_cases hc0 : lastT es / K.a < i ∨ j ≤ lastT es / K.a
  · have h1 := span_no hLv hG hW.1 hi hij hmax hc0
    change foldC x.t0.l _ _ = _ at h1
    rw [h1] at k1
    rw [← hl] at hc0 h1 ⊢
    rw [← hl] at k1 k2
    clear h1 hmax hLv hG h ho hl hp2 hW
    generalize x.last / K.a = A at *
    generalize cel (sel K.a K.x A es i j) = C1 at *
    refine Ct.enterV (by rfl) Tryz.func67 rfl Tryz.ntmps67 rfl (fun w0 Rest => ?_)
    (repeat' (first | refine zss ?_ | ((first | (with_reducible first | apply At.val | apply AtQ.val)); (first | exact pr_indexArr (k := 0) (by rfl) (by rfl) (by rfl) (by rfl) (by decide) | exact pr_quo (by rfl) (by rfl) hW0 hq1); exact rfl) | refine zsM ?_ | ((with_reducible first | apply AtM1.cr | apply AtQ.cr | apply At.cr); exact rfl; exact rfl; exact fun _ hmm => k1 _ zml; exact ztk; kernel_rfl) | fail | ((with_reducible apply At.alloc (d := 8)); exact rfl; exact rfl; intro b8) | ((with_reducible apply At.alloc (d := 11)); exact rfl; exact rfl; intro b11) | ((with_reducible apply At.alloc (d := 13)); exact rfl; exact rfl; intro b13) | (refine zsp ?_ ?_ <;> (intro hc; (try simp only [zhcs, reduceCtorEq] at hc); (try (exfalso; first | omega | contradiction | omega | exact absurd rfl hc | exact absurd (by decide) hc))))))
    all_goals ((with_reducible apply At.retV (B := kb q K x)); exact rfl; (repeat' (first | exact RVs.nil | (with_reducible apply RVs.cons) | exact rv_tmp (by rfl) | exact rv_cellN (by rfl) (by repeat constructor) (by rfl) (by rfl) (by rfl) | exact rv_cell1 (by rfl) (by repeat constructor) (by rfl) (by rfl))); exact zml; exact zkp; exact ⟨rfl, rfl, rfl⟩)
  obtain ⟨c, h1, h2⟩ := span_yes hLv hG hW.1 hi hij hmax (by omega)
  change foldC x.t0.l _ _ = _ at h1
  have hci : Cell.In c := by
    have := foldC_in ho.i0 i j
    rw [h1] at this
    exact this
  have k3 := Cell.merge c (G K.a es (lastT es / K.a)) hci (G_in hG)
  rw [h2] at k3
  rw [h1] at k1
  rw [← hl] at hc0 ⊢
  rw [← hl] at k2 k3
  clear h1 h2 hci hmax hLv hG h ho hl hp2 hW
  generalize x.last / K.a = A at *
  generalize cel (sel K.a K.x A es i j) = C1 at *
  generalize G K.a es A = C2 at *
  refine Ct.enterV (by rfl) Tryz.func67 rfl Tryz.ntmps67 rfl (fun w0 Rest => ?_)
  (repeat' (first | refine zss ?_ | ((first | (with_reducible first | apply At.val | apply AtQ.val)); (first | exact pr_indexArr (k := 0) (by rfl) (by rfl) (by rfl) (by rfl) (by decide) | exact pr_quo (by rfl) (by rfl) hW0 hq1); exact rfl) | refine zsM ?_ | ((with_reducible first | apply AtM1.cr | apply AtQ.cr | apply At.cr); exact rfl; exact rfl; exact fun _ hmm => k1 _ zml; exact ztk; kernel_rfl) | ((with_reducible first | apply At.c1 | apply At.c0); exact rfl; exact rfl; exact k2 _ zml; exact ztk; kernel_rfl; rintro v' m' B' hm' ⟨rfl, rfl, rfl⟩; skip; (try (have hq0 : hm' = Mem.le_refl _ := rfl; clear hq0 hm'))) | ((with_reducible first | apply AtM1.callp | apply AtQ.callp | apply At.callp); kernel_rfl; exact rfl; exact rfl; exact k3) | fail | ((with_reducible apply At.alloc (d := 8)); exact rfl; exact rfl; intro b8) | ((with_reducible apply At.alloc (d := 11)); exact rfl; exact rfl; intro b11) | ((with_reducible apply At.alloc (d := 13)); exact rfl; exact rfl; intro b13) | (refine zsp ?_ ?_ <;> (intro hc; (try simp only [zhcs, reduceCtorEq] at hc); (try (exfalso; first | omega | contradiction | omega | exact absurd rfl hc | exact absurd (by decide) hc))))))
  all_goals ((with_reducible apply At.retV (B := kb q K x)); exact rfl; (repeat' (first | exact RVs.nil | (with_reducible apply RVs.cons) | exact rv_tmp (by rfl) | exact rv_cellN (by rfl) (by repeat constructor) (by rfl) (by rfl) (by rfl) | exact rv_cell1 (by rfl) (by repeat constructor) (by rfl) (by rfl))); exact zml; exact zkp; exact ⟨rfl, rfl, rfl⟩)
theorem range0 {m : Mem} (K : Cfg) (x : Ser) (es : List Ev) (i j : Int) (h : SI K es x) (ho : x.Ok m) (hi : 0 ≤ i) (hij : i ≤ j) :
    Rd Tryz.prog 28 #[K.v, x.v, .int .i64 0, .int .i64 i, .int .i64 j] m [] (.tuple #[(rg K es 0 i j).v, .int .i64 0]) := by
  unfold Rd
  have k0 := fun (m' : Mem) (hm : m.le m') => openY h (ho.mono hm)
  have k1 := fun (m' : Mem) (q : Nat) (hm : m.le m') => span0 (m := m') q K x es i j h (ho.mono hm) hi hij
  clear h ho
  refine Ct.enterV (by rfl) Tryz.func28 rfl Tryz.ntmps28 rfl (fun w0 Rest => ?_)
  (repeat' (first | refine zss ?_ | refine zsM ?_ | ((with_reducible first | apply At.c1 | apply At.c0); exact rfl; exact rfl; exact k0 _ zml; exact ztk; kernel_rfl; rintro v' m' B' hm' ⟨rfl, q, rfl, rfl⟩; skip; (try (have hq0 : hm' = Mem.le_refl _ := rfl; clear hq0 hm'))) | ((with_reducible first | apply At.c1 | apply At.c0); exact rfl; exact rfl; exact k1 _ q zml; exact ztk; kernel_rfl; rintro v' m' B' hm' ⟨rfl, rfl, rfl⟩; skip; (try (have hq0 : hm' = Mem.le_refl _ := rfl; clear hq0 hm'))) | ((with_reducible apply At.box (d := 5)); exact rfl; exact rfl; exact rfl; intro b5) | ((with_reducible apply At.box (d := 6)); exact rfl; exact rfl; exact rfl; intro b6) | ((with_reducible apply At.alloc (d := 10)); exact rfl; exact rfl; intro b10) | (refine zsp ?_ ?_ <;> (intro hc; (try simp only [zhcs, reduceCtorEq] at hc); (try (exfalso; first | omega | contradiction | omega | exact absurd rfl hc | exact absurd (by decide) hc))))))
  all_goals ((with_reducible apply At.retV (B := [])); exact rfl; (repeat' (first | exact RVs.nil | (with_reducible apply RVs.cons) | exact rv_tmp (by rfl) | exact rv_cellN (by rfl) (by repeat constructor) (by rfl) (by rfl) (by rfl) | exact rv_cell1 (by rfl) (by repeat constructor) (by rfl) (by rfl))); exact zml; exact zkp; exact ⟨rfl, rfl, rfl⟩)
theorem span1 {m : Mem} (q : Nat) (K : Cfg) (x : Ser) (es : List Ev) (i j : Int) (h : SI K es x) (ho : x.Ok m) (hi : 0 ≤ i) (hij : i ≤ j) :
    Ct Tryz.prog 67 #[pt q, .int .i64 1, .int .i64 i, .int .i64 j] m (kb q K x) (Post q K x m (rg K es 1 i j)) := by
  by_cases hn : es = []
  · have hl : x.last = -1 := h.last.trans (if_pos hn)
    have e : rg K es 1 i j = Cell.z := by subst hn; rfl
    rw [e]
    clear h ho e
    refine Ct.enterV (by rfl) Tryz.func67 rfl Tryz.ntmps67 rfl (fun w0 Rest => ?_)
    (repeat' (first | refine zss ?_ | refine zsM ?_ | ((with_reducible apply At.alloc (d := 8)); exact rfl; exact rfl; intro b8) | ((with_reducible apply At.alloc (d := 11)); exact rfl; exact rfl; intro b11) | ((with_reducible apply At.alloc (d := 13)); exact rfl; exact rfl; intro b13) | (refine zsp ?_ ?_ <;> (intro hc; (try simp only [zhcs, reduceCtorEq] at hc); (try (exfalso; first | omega | contradiction | omega | exact absurd rfl hc | exact absurd (by decide) hc))))))
    all_goals ((with_reducible apply At.retV (B := kb q K x)); exact rfl; (repeat' (first | exact RVs.nil | (with_reducible apply RVs.cons) | exact rv_tmp (by rfl) | exact rv_cellN (by rfl) (by repeat constructor) (by rfl) (by rfl) (by rfl) | exact rv_cell1 (by rfl) (by repeat constructor) (by rfl) (by rfl))); exact zml; exact zkp; exact ⟨congrArg (fun v => Value.tuple #[v, .int .i64 0]) Cell.zv, rfl, rfl⟩)
  obtain ⟨hl, hp1, hp2⟩ := h.pos hn
  have hG := h.inv.g
  have hW := h.inv.ok.hb
  have hLv := h.inv.b
  have hmax := fun e he => le_win (w := K.b) hG hW.1 (e := e) he
  have hq1 : IntKind.wrap .i64 (x.last.tdiv K.b) = x.last / K.b := quo_nn (by omega) hW.1
  have hW0 : K.b ≠ 0 := by omega
  show Ct _ _ _ _ _ (Post q K x m (cel (sel K.b K.y (lastT es / K.b) es i j)))
  have k1 := fun (m' : Mem) (hm : m.le m') => fold_ (m := m') x.t1.p x.t1.c x.t1.l i j (ho.i1) (okT_dis hLv.ok) ho.n1 (ho.s1.mono hm)
  have k2 := fun (m' : Mem) (hm : m.le m') => now1 (m := m') q K x es h (ho.mono hm) hn
  by_cases hc0 : lastT es / K.b < i ∨ j ≤ lastT es / K.b
  · have h1 := span_no hLv hG hW.1 hi hij hmax hc0
    change foldC x.t1.l _ _ = _ at h1
    rw [h1] at k1
    rw [← hl] at hc0 h1 ⊢
    rw [← hl] at k1 k2
    clear h1 hmax hLv hG h ho hl hp2 hW
    generalize x.last / K.b = A at *
    generalize cel (sel K.b K.y A es i j) = C1 at *
    refine Ct.enterV (by rfl) Tryz.func67 rfl Tryz.ntmps67 rfl (fun w0 Rest => ?_)
    (repeat' (first | refine zss ?_ | ((first | (with_reducible first | apply At.val | apply AtQ.val)); (first | exact pr_indexArr (k := 1) (by rfl) (by rfl) (by rfl) (by rfl) (by decide) | exact pr_quo (by rfl) (by rfl) hW0 hq1); exact rfl) | refine zsM ?_ | ((with_reducible first | apply AtM1.cr | apply AtQ.cr | apply At.cr); exact rfl; exact rfl; exact fun _ hmm => k1 _ zml; exact ztk; kernel_rfl) | fail | ((with_reducible apply At.alloc (d := 8)); exact rfl; exact rfl; intro b8) | ((with_reducible apply At.alloc (d := 11)); exact rfl; exact rfl; intro b11) | ((with_reducible apply At.alloc (d := 13)); exact rfl; exact rfl; intro b13) | (refine zsp ?_ ?_ <;> (intro hc; (try simp only [zhcs, reduceCtorEq] at hc); (try (exfalso; first | omega | contradiction | omega | exact absurd rfl hc | exact absurd (by decide) hc))))))
    all_goals ((with_reducible apply At.retV (B := kb q K x)); exact rfl; (repeat' (first | exact RVs.nil | (with_reducible apply RVs.cons) | exact rv_tmp (by rfl) | exact rv_cellN (by rfl) (by repeat constructor) (by rfl) (by rfl) (by rfl) | exact rv_cell1 (by rfl) (by repeat constructor) (by rfl) (by rfl))); exact zml; exact zkp; exact ⟨rfl, rfl, rfl⟩)
  obtain ⟨c, h1, h2⟩ := span_yes hLv hG hW.1 hi hij hmax (by omega)
  change foldC x.t1.l _ _ = _ at h1
  have hci : Cell.In c := by
    have := foldC_in ho.i1 i j
    rw [h1] at this
    exact this
  have k3 := Cell.merge c (G K.b es (lastT es / K.b)) hci (G_in hG)
  rw [h2] at k3
  rw [h1] at k1
  rw [← hl] at hc0 ⊢
  rw [← hl] at k2 k3
  clear h1 h2 hci hmax hLv hG h ho hl hp2 hW
  generalize x.last / K.b = A at *
  generalize cel (sel K.b K.y A es i j) = C1 at *
  generalize G K.b es A = C2 at *
  refine Ct.enterV (by rfl) Tryz.func67 rfl Tryz.ntmps67 rfl (fun w0 Rest => ?_)
  (repeat' (first | refine zss ?_ | ((first | (with_reducible first | apply At.val | apply AtQ.val)); (first | exact pr_indexArr (k := 1) (by rfl) (by rfl) (by rfl) (by rfl) (by decide) | exact pr_quo (by rfl) (by rfl) hW0 hq1); exact rfl) | refine zsM ?_ | ((with_reducible first | apply AtM1.cr | apply AtQ.cr | apply At.cr); exact rfl; exact rfl; exact fun _ hmm => k1 _ zml; exact ztk; kernel_rfl) | ((with_reducible first | apply At.c1 | apply At.c0); exact rfl; exact rfl; exact k2 _ zml; exact ztk; kernel_rfl; rintro v' m' B' hm' ⟨rfl, rfl, rfl⟩; skip; (try (have hq0 : hm' = Mem.le_refl _ := rfl; clear hq0 hm'))) | ((with_reducible first | apply AtM1.callp | apply AtQ.callp | apply At.callp); kernel_rfl; exact rfl; exact rfl; exact k3) | fail | ((with_reducible apply At.alloc (d := 8)); exact rfl; exact rfl; intro b8) | ((with_reducible apply At.alloc (d := 11)); exact rfl; exact rfl; intro b11) | ((with_reducible apply At.alloc (d := 13)); exact rfl; exact rfl; intro b13) | (refine zsp ?_ ?_ <;> (intro hc; (try simp only [zhcs, reduceCtorEq] at hc); (try (exfalso; first | omega | contradiction | omega | exact absurd rfl hc | exact absurd (by decide) hc))))))
  all_goals ((with_reducible apply At.retV (B := kb q K x)); exact rfl; (repeat' (first | exact RVs.nil | (with_reducible apply RVs.cons) | exact rv_tmp (by rfl) | exact rv_cellN (by rfl) (by repeat constructor) (by rfl) (by rfl) (by rfl) | exact rv_cell1 (by rfl) (by repeat constructor) (by rfl) (by rfl))); exact zml; exact zkp; exact ⟨rfl, rfl, rfl⟩)
theorem range1 {m : Mem} (K : Cfg) (x : Ser) (es : List Ev) (i j : Int) (h : SI K es x) (ho : x.Ok m) (hi : 0 ≤ i) (hij : i ≤ j) :
    Rd Tryz.prog 28 #[K.v, x.v, .int .i64 1, .int .i64 i, .int .i64 j] m [] (.tuple #[(rg K es 1 i j).v, .int .i64 0]) := by
  unfold Rd
  have k0 := fun (m' : Mem) (hm : m.le m') => openY h (ho.mono hm)
  have k1 := fun (m' : Mem) (q : Nat) (hm : m.le m') => span1 (m := m') q K x es i j h (ho.mono hm) hi hij
  clear h ho
  refine Ct.enterV (by rfl) Tryz.func28 rfl Tryz.ntmps28 rfl (fun w0 Rest => ?_)
  (repeat' (first | refine zss ?_ | refine zsM ?_ | ((with_reducible first | apply At.c1 | apply At.c0); exact rfl; exact rfl; exact k0 _ zml; exact ztk; kernel_rfl; rintro v' m' B' hm' ⟨rfl, q, rfl, rfl⟩; skip; (try (have hq0 : hm' = Mem.le_refl _ := rfl; clear hq0 hm'))) | ((with_reducible first | apply At.c1 | apply At.c0); exact rfl; exact rfl; exact k1 _ q zml; exact ztk; kernel_rfl; rintro v' m' B' hm' ⟨rfl, rfl, rfl⟩; skip; (try (have hq0 : hm' = Mem.le_refl _ := rfl; clear hq0 hm'))) | ((with_reducible apply At.box (d := 5)); exact rfl; exact rfl; exact rfl; intro b5) | ((with_reducible apply At.box (d := 6)); exact rfl; exact rfl; exact rfl; intro b6) | ((with_reducible apply At.alloc (d := 10)); exact rfl; exact rfl; intro b10) | (refine zsp ?_ ?_ <;> (intro hc; (try simp only [zhcs, reduceCtorEq] at hc); (try (exfalso; first | omega | contradiction | omega | exact absurd rfl hc | exact absurd (by decide) hc))))))
  all_goals ((with_reducible apply At.retV (B := [])); exact rfl; (repeat' (first | exact RVs.nil | (with_reducible apply RVs.cons) | exact rv_tmp (by rfl) | exact rv_cellN (by rfl) (by repeat constructor) (by rfl) (by rfl) (by rfl) | exact rv_cell1 (by rfl) (by repeat constructor) (by rfl) (by rfl))); exact zml; exact zkp; exact ⟨rfl, rfl, rfl⟩)
theorem span2 {m : Mem} (q : Nat) (K : Cfg) (x : Ser) (es : List Ev) (i j : Int) (h : SI K es x) (ho : x.Ok m) (hi : 0 ≤ i) (hij : i ≤ j) :
    Ct Tryz.prog 67 #[pt q, .int .i64 2, .int .i64 i, .int .i64 j] m (kb q K x) (Post q K x m (rg K es 2 i j)) := by
  by_cases hn : es = []
  · have hl : x.last = -1 := h.last.trans (if_pos hn)
    have e : rg K es 2 i j = Cell.z := by subst hn; rfl
    rw [e]
    clear h ho e
    refine Ct.enterV (by rfl) Tryz.func67 rfl Tryz.ntmps67 rfl (fun w0 Rest => ?_)
    (repeat' (first | refine zss ?_ | refine zsM ?_ | ((with_reducible apply At.alloc (d := 8)); exact rfl; exact rfl; intro b8) | ((with_reducible apply At.alloc (d := 11)); exact rfl; exact rfl; intro b11) | ((with_reducible apply At.alloc (d := 13)); exact rfl; exact rfl; intro b13) | (refine zsp ?_ ?_ <;> (intro hc; (try simp only [zhcs, reduceCtorEq] at hc); (try (exfalso; first | omega | contradiction | omega | exact absurd rfl hc | exact absurd (by decide) hc))))))
    all_goals ((with_reducible apply At.retV (B := kb q K x)); exact rfl; (repeat' (first | exact RVs.nil | (with_reducible apply RVs.cons) | exact rv_tmp (by rfl) | exact rv_cellN (by rfl) (by repeat constructor) (by rfl) (by rfl) (by rfl) | exact rv_cell1 (by rfl) (by repeat constructor) (by rfl) (by rfl))); exact zml; exact zkp; exact ⟨congrArg (fun v => Value.tuple #[v, .int .i64 0]) Cell.zv, rfl, rfl⟩)
  obtain ⟨hl, hp1, hp2⟩ := h.pos hn
  have hG := h.inv.g
  have hW := h.inv.ok.hd
  have hLv := h.inv.c
  have hmax := fun e he => le_win (w := K.d) hG hW.1 (e := e) he
  have hq1 : IntKind.wrap .i64 (x.last.tdiv K.d) = x.last / K.d := quo_nn (by omega) hW.1
  have hW0 : K.d ≠ 0 := by omega
  show Ct _ _ _ _ _ (Post q K x m (cel (sel K.d K.w (lastT es / K.d) es i j)))
  have k1 := fun (m' : Mem) (hm : m.le m') => fold_ (m := m') x.t2.p x.t2.c x.t2.l i j (ho.i2) (okT_dis hLv.ok) ho.n2 (ho.s2.mono hm)
  have k2 := fun (m' : Mem) (hm : m.le m') => now2 (m := m') q K x es h (ho.mono hm) hn
  by_cases hc0 : lastT es / K.d < i ∨ j ≤ lastT es / K.d
  · have h1 := span_no hLv hG hW.1 hi hij hmax hc0
    change foldC x.t2.l _ _ = _ at h1
    rw [h1] at k1
    rw [← hl] at hc0 h1 ⊢
    rw [← hl] at k1 k2
    clear h1 hmax hLv hG h ho hl hp2 hW
    generalize x.last / K.d = A at *
    generalize cel (sel K.d K.w A es i j) = C1 at *
    refine Ct.enterV (by rfl) Tryz.func67 rfl Tryz.ntmps67 rfl (fun w0 Rest => ?_)
    (repeat' (first | refine zss ?_ | ((first | (with_reducible first | apply At.val | apply AtQ.val)); (first | exact pr_indexArr (k := 2) (by rfl) (by rfl) (by rfl) (by rfl) (by decide) | exact pr_quo (by rfl) (by rfl) hW0 hq1); exact rfl) | refine zsM ?_ | ((with_reducible first | apply AtM1.cr | apply AtQ.cr | apply At.cr); exact rfl; exact rfl; exact fun _ hmm => k1 _ zml; exact ztk; kernel_rfl) | fail | ((with_reducible apply At.alloc (d := 8)); exact rfl; exact rfl; intro b8) | ((with_reducible apply At.alloc (d := 11)); exact rfl; exact rfl; intro b11) | ((with_reducible apply At.alloc (d := 13)); exact rfl; exact rfl; intro b13) | (refine zsp ?_ ?_ <;> (intro hc; (try simp only [zhcs, reduceCtorEq] at hc); (try (exfalso; first | omega | contradiction | omega | exact absurd rfl hc | exact absurd (by decide) hc))))))
    all_goals ((with_reducible apply At.retV (B := kb q K x)); exact rfl; (repeat' (first | exact RVs.nil | (with_reducible apply RVs.cons) | exact rv_tmp (by rfl) | exact rv_cellN (by rfl) (by repeat constructor) (by rfl) (by rfl) (by rfl) | exact rv_cell1 (by rfl) (by repeat constructor) (by rfl) (by rfl))); exact zml; exact zkp; exact ⟨rfl, rfl, rfl⟩)
  obtain ⟨c, h1, h2⟩ := span_yes hLv hG hW.1 hi hij hmax (by omega)
  change foldC x.t2.l _ _ = _ at h1
  have hci : Cell.In c := by
    have := foldC_in ho.i2 i j
    rw [h1] at this
    exact this
  have k3 := Cell.merge c (G K.d es (lastT es / K.d)) hci (G_in hG)
  rw [h2] at k3
  rw [h1] at k1
  rw [← hl] at hc0 ⊢
  rw [← hl] at k2 k3
  clear h1 h2 hci hmax hLv hG h ho hl hp2 hW
  generalize x.last / K.d = A at *
  generalize cel (sel K.d K.w A es i j) = C1 at *
  generalize G K.d es A = C2 at *
  refine Ct.enterV (by rfl) Tryz.func67 rfl Tryz.ntmps67 rfl (fun w0 Rest => ?_)
  (repeat' (first | refine zss ?_ | ((first | (with_reducible first | apply At.val | apply AtQ.val)); (first | exact pr_indexArr (k := 2) (by rfl) (by rfl) (by rfl) (by rfl) (by decide) | exact pr_quo (by rfl) (by rfl) hW0 hq1); exact rfl) | refine zsM ?_ | ((with_reducible first | apply AtM1.cr | apply AtQ.cr | apply At.cr); exact rfl; exact rfl; exact fun _ hmm => k1 _ zml; exact ztk; kernel_rfl) | ((with_reducible first | apply At.c1 | apply At.c0); exact rfl; exact rfl; exact k2 _ zml; exact ztk; kernel_rfl; rintro v' m' B' hm' ⟨rfl, rfl, rfl⟩; skip; (try (have hq0 : hm' = Mem.le_refl _ := rfl; clear hq0 hm'))) | ((with_reducible first | apply AtM1.callp | apply AtQ.callp | apply At.callp); kernel_rfl; exact rfl; exact rfl; exact k3) | fail | ((with_reducible apply At.alloc (d := 8)); exact rfl; exact rfl; intro b8) | ((with_reducible apply At.alloc (d := 11)); exact rfl; exact rfl; intro b11) | ((with_reducible apply At.alloc (d := 13)); exact rfl; exact rfl; intro b13) | (refine zsp ?_ ?_ <;> (intro hc; (try simp only [zhcs, reduceCtorEq] at hc); (try (exfalso; first | omega | contradiction | omega | exact absurd rfl hc | exact absurd (by decide) hc))))))
  all_goals ((with_reducible apply At.retV (B := kb q K x)); exact rfl; (repeat' (first | exact RVs.nil | (with_reducible apply RVs.cons) | exact rv_tmp (by rfl) | exact rv_cellN (by rfl) (by repeat constructor) (by rfl) (by rfl) (by rfl) | exact rv_cell1 (by rfl) (by repeat constructor) (by rfl) (by rfl))); exact zml; exact zkp; exact ⟨rfl, rfl, rfl⟩)
theorem range2 {m : Mem} (K : Cfg) (x : Ser) (es : List Ev) (i j : Int) (h : SI K es x) (ho : x.Ok m) (hi : 0 ≤ i) (hij : i ≤ j) :
    Rd Tryz.prog 28 #[K.v, x.v, .int .i64 2, .int .i64 i, .int .i64 j] m [] (.tuple #[(rg K es 2 i j).v, .int .i64 0]) := by
  unfold Rd
  have k0 := fun (m' : Mem) (hm : m.le m') => openY h (ho.mono hm)
  have k1 := fun (m' : Mem) (q : Nat) (hm : m.le m') => span2 (m := m') q K x es i j h (ho.mono hm) hi hij
  clear h ho
  refine Ct.enterV (by rfl) Tryz.func28 rfl Tryz.ntmps28 rfl (fun w0 Rest => ?_)
  (repeat' (first | refine zss ?_ | refine zsM ?_ | ((with_reducible first | apply At.c1 | apply At.c0); exact rfl; exact rfl; exact k0 _ zml; exact ztk; kernel_rfl; rintro v' m' B' hm' ⟨rfl, q, rfl, rfl⟩; skip; (try (have hq0 : hm' = Mem.le_refl _ := rfl; clear hq0 hm'))) | ((with_reducible first | apply At.c1 | apply At.c0); exact rfl; exact rfl; exact k1 _ q zml; exact ztk; kernel_rfl; rintro v' m' B' hm' ⟨rfl, rfl, rfl⟩; skip; (try (have hq0 : hm' = Mem.le_refl _ := rfl; clear hq0 hm'))) | ((with_reducible apply At.box (d := 5)); exact rfl; exact rfl; exact rfl; intro b5) | ((with_reducible apply At.box (d := 6)); exact rfl; exact rfl; exact rfl; intro b6) | ((with_reducible apply At.alloc (d := 10)); exact rfl; exact rfl; intro b10) | (refine zsp ?_ ?_ <;> (intro hc; (try simp only [zhcs, reduceCtorEq] at hc); (try (exfalso; first | omega | contradiction | omega | exact absurd rfl hc | exact absurd (by decide) hc))))))
  all_goals ((with_reducible apply At.retV (B := [])); exact rfl; (repeat' (first | exact RVs.nil | (with_reducible apply RVs.cons) | exact rv_tmp (by rfl) | exact rv_cellN (by rfl) (by repeat constructor) (by rfl) (by rfl) (by rfl) | exact rv_cell1 (by rfl) (by repeat constructor) (by rfl) (by rfl))); exact zml; exact zkp; exact ⟨rfl, rfl, rfl⟩)
theorem range_ {m : Mem} (K : Cfg) (x : Ser) (es : List Ev) (k : Nat) (hk : k < 3) (i j : Int) (h : SI K es x) (ho : x.Ok m) (hi : 0 ≤ i) (hij : i ≤ j) :
    Rd Tryz.prog 28 #[K.v, x.v, .int .i64 (k : Int), .int .i64 i, .int .i64 j] m [] (.tuple #[(rg K es k i j).v, .int .i64 0]) := by
  rcases (show k = 0 ∨ k = 1 ∨ k = 2 by omega) with rfl | rfl | rfl
  · exact range0 K x es i j h ho hi hij
  · exact range1 K x es i j h ho hi hij
  · exact range2 K x es i j h ho hi hij
end Sv
end Go.Proofs.YtkoijdmlehkhbaaGreatDoor
namespace Go.Proofs.YtkoijdmlehkhbaaGreatDoor
open Go Go.J
attribute [local irreducible] At AtQ AtM AtM1 PR Ct Pu Rd Res.blk Res.own Res.ex RVs RV
namespace Mrg
open Wide Ev
theorem check {m : Mem} (p : Option Addr) (c : Nat) (l : List Ev) (hl : l.length ≤ 1000000) (sl0 : Sl m cells 4 p c l) :
    Rd Tryz.prog 157 #[.slice p l.length c] m [] (.int .i64 (chk l)) := by
  unfold Rd
  refine Ct.enterV (by rfl) Tryz.func157 rfl Tryz.ntmps157 rfl (fun w0 Rest => ?_)
  (repeat' (first | refine zss ?_ | refine zsM ?_ | ((with_reducible apply At.alloc (d := 4)); exact rfl; exact rfl; intro b4) | (refine zsp ?_ ?_ <;> (intro hc; (try simp only [zhcs, reduceCtorEq] at hc); (try (exfalso; first | contradiction | omega | exact absurd rfl hc | exact absurd (by decide) hc))))))
  (refine At.loopk (σ := Nat) [0, 7, 8] (fun s F0 => (9, .int .i64 (s : Int)) :: F0) (fun s => m) (fun s => Rest) (fun s => s ≤ l.length ∧ ∀ i, i < s → (l[i]!).ok) (fun s => l.length - s) 0 (by rfl) ?_ zsubs zml zente ?_)
  · exact ⟨Nat.zero_le _, fun i h => absurd h (Nat.not_lt_zero i)⟩
  rintro s ⟨hs, ha⟩
  by_cases h : s < l.length
  · have hk := Ev.check (l[s]!)
    by_cases ho : (l[s]!).ok
    · rw [show (l[s]!).chk = 0 from if_pos ho] at hk
      have hn : ∀ i, i < s + 1 → (l[i]!).ok := fun i hi => by
        by_cases e : i = s
        · subst e; exact ho
        · exact ha i (by omega)
      (repeat' (first | refine zss ?_ | refine zsM ?_ | ((with_reducible first | apply AtM1.callp | apply AtQ.callp | apply At.callp); kernel_rfl; exact rfl; exact rfl; exact hk) | ((with_reducible apply At.alloc (d := 4)); exact rfl; exact rfl; intro b4) | (refine zsp ?_ ?_ <;> (intro hc; (try simp only [zhcs, reduceCtorEq] at hc); (try (exfalso; first | omega | contradiction | omega | exact absurd rfl hc | exact absurd (by decide) hc))))))
      all_goals ((with_reducible refine At.reachk ((s + 1)) ?_ ?_ ?_ ?_); exact zsubs; exact zml; exact zente; exact ⟨⟨h, hn⟩, by omega⟩)
    · rw [show (l[s]!).chk = 2 from if_neg ho] at hk
      rw [show chk l = 2 from if_neg fun hh => ho (hh s h)]
      (repeat' (first | refine zss ?_ | refine zsM ?_ | ((with_reducible first | apply AtM1.callp | apply AtQ.callp | apply At.callp); kernel_rfl; exact rfl; exact rfl; exact hk) | ((with_reducible apply At.alloc (d := 4)); exact rfl; exact rfl; intro b4) | (refine zsp ?_ ?_ <;> (intro hc; (try simp only [zhcs, reduceCtorEq] at hc); (try (exfalso; first | omega | contradiction | omega | exact absurd rfl hc | exact absurd (by decide) hc))))))
      all_goals ((with_reducible apply At.retB1 (B := [])); exact rfl; exact rfl; exact zml; exact zkp; exact ⟨rfl, rfl, rfl⟩)
  · have hall : aok l := fun i hi => ha i (by omega)
    (repeat' (first | refine zss ?_ | refine zsM ?_ | ((with_reducible apply At.alloc (d := 4)); exact rfl; exact rfl; intro b4) | (refine zsp ?_ ?_ <;> (intro hc; (try simp only [zhcs, reduceCtorEq] at hc); (try (exfalso; first | omega | contradiction | omega | exact absurd rfl hc | exact absurd (by decide) hc))))))
    (refine At.loopk (σ := Nat) [0] (fun s F0 => (6, .int .i64 (s : Int)) :: F0) (fun s => m) (fun s => Rest) (fun s => 1 ≤ s ∧ s ≤ max 1 l.length ∧ ∀ i, i + 1 < s → (l[i]!).T < (l[i + 1]!).T) (fun s => l.length - s) 1 (by rfl) ?_ zsubs zml zente ?_)
    · exact ⟨Nat.le_refl _, Nat.le_max_left _ _, fun i h => absurd h (by omega)⟩
    rintro k ⟨k1, k2, k3⟩
    by_cases h2 : k < l.length
    · obtain ⟨j, rfl⟩ : ∃ j, k = j + 1 := ⟨k - 1, by omega⟩
      have hw : IntKind.wrap .i64 (((j + 1 : Nat) : Int) - 1) = (j : Int) := by rw [show (((j + 1 : Nat) : Int) - 1) = (j : Int) by omega]; exact IntWalk.i64_in _ (by omega)
      have hf := Ev.follow (l[j]!) (l[j + 1]!)
      rw [show fol (l[j]!) (l[j + 1]!) = decide ((l[j]!).T < (l[j + 1]!).T) by unfold fol; rw [decide_eq_true (show two (l[j]!) (l[j + 1]!) from ⟨hall j (by omega), hall (j + 1) h2⟩), Bool.true_and]] at hf
      by_cases hlt : (l[j]!).T < (l[j + 1]!).T
      · have hn : ∀ i, i + 1 < j + 2 → (l[i]!).T < (l[i + 1]!).T := fun i hi => by
          by_cases e : i = j
          · subst e; exact hlt
          · exact k3 i (by omega)
        rw [decide_eq_true hlt] at hf
        (repeat' (first | refine zss ?_ | ((first | (with_reducible first | apply At.val | apply AtQ.val)); (exact pr_sub (by rfl) (by rfl) hw); exact rfl) | refine zsM ?_ | ((with_reducible first | apply AtM1.callp | apply AtQ.callp | apply At.callp); kernel_rfl; exact rfl; exact rfl; exact hf) | ((with_reducible apply At.alloc (d := 4)); exact rfl; exact rfl; intro b4) | (refine zsp ?_ ?_ <;> (intro hc; (try simp only [zhcs, reduceCtorEq] at hc); (try (exfalso; first | omega | contradiction | omega | exact absurd rfl hc | exact absurd (by decide) hc))))))
        all_goals ((with_reducible refine At.reachk ((j + 2)) ?_ ?_ ?_ ?_); exact zsubs; exact zml; exact zente; exact ⟨⟨by omega, by omega, hn⟩, by omega⟩)
      · rw [decide_eq_false hlt] at hf
        rw [show chk l = 9 by unfold chk; rw [if_pos hall, if_neg fun hh => hlt (hh j (by omega))]]
        (repeat' (first | refine zss ?_ | ((first | (with_reducible first | apply At.val | apply AtQ.val)); (exact pr_sub (by rfl) (by rfl) hw); exact rfl) | refine zsM ?_ | ((with_reducible first | apply AtM1.callp | apply AtQ.callp | apply At.callp); kernel_rfl; exact rfl; exact rfl; exact hf) | ((with_reducible apply At.alloc (d := 4)); exact rfl; exact rfl; intro b4) | (refine zsp ?_ ?_ <;> (intro hc; (try simp only [zhcs, reduceCtorEq] at hc); (try (exfalso; first | omega | contradiction | omega | exact absurd rfl hc | exact absurd (by decide) hc))))))
        all_goals ((with_reducible apply At.retB1 (B := [])); exact rfl; exact rfl; exact zml; exact zkp; exact ⟨rfl, rfl, rfl⟩)
    · rw [show chk l = 0 by unfold chk; rw [if_pos hall, if_pos (show asc l from fun i hi => k3 i (by omega))]]
      (repeat' (first | refine zss ?_ | refine zsM ?_ | ((with_reducible apply At.alloc (d := 4)); exact rfl; exact rfl; intro b4) | (refine zsp ?_ ?_ <;> (intro hc; (try simp only [zhcs, reduceCtorEq] at hc); (try (exfalso; first | omega | contradiction | omega | exact absurd rfl hc | exact absurd (by decide) hc))))))
      all_goals ((with_reducible apply At.retB1 (B := [])); exact rfl; exact rfl; exact zml; exact zkp; exact ⟨rfl, rfl, rfl⟩)
end Mrg
end Go.Proofs.YtkoijdmlehkhbaaGreatDoor
namespace Go.Proofs.YtkoijdmlehkhbaaGreatDoor
open Go Go.J
attribute [local irreducible] At AtQ AtM AtM1 PR Ct Pu Rd Res.blk Res.own Res.ex RVs RV
namespace Mrg
open Wide Ev
/-- where the first event of a time stands, from a place on -/
def ixF (l : List Ev) (t : Int) : Nat → Nat → Int
  | _, 0 => -1
  | i, k + 1 => if (l[i]!).T = t then (i : Int) else ixF l t (i + 1) k
def ix (l : List Ev) (t : Int) : Int := ixF l t 0 l.length
theorem ixF_spec (l : List Ev) (t : Int) : ∀ (k i : Nat), i + k = l.length → (ixF l t i k = -1 ∧ ∀ j, i ≤ j → j < l.length → (l[j]!).T ≠ t) ∨ (∃ j : Nat, ixF l t i k = (j : Int) ∧ i ≤ j ∧ j < l.length ∧ (l[j]!).T = t)
  | 0, i, h => .inl ⟨rfl, fun j h1 h2 => by omega⟩
  | k + 1, i, h => by
    unfold ixF
    by_cases ht : (l[i]!).T = t
    · rw [if_pos ht]; exact .inr ⟨i, rfl, Nat.le_refl _, by omega, ht⟩
    · rw [if_neg ht]
      rcases ixF_spec l t k (i + 1) (by omega) with ⟨h1, h2⟩ | ⟨j, h1, h2, h3, h4⟩
      · refine .inl ⟨h1, fun j hj hj2 => ?_⟩
        by_cases e : j = i
        · subst e; exact ht
        · exact h2 j (by omega) hj2
      · exact .inr ⟨j, h1, by omega, h3, h4⟩
theorem ix_spec (l : List Ev) (t : Int) : (ix l t = -1 ∧ ∀ j, j < l.length → (l[j]!).T ≠ t) ∨ (∃ j : Nat, ix l t = (j : Int) ∧ j < l.length ∧ (l[j]!).T = t) := by
  rcases ixF_spec l t l.length 0 (by omega) with ⟨h1, h2⟩ | ⟨j, h1, _, h3, h4⟩
  · exact .inl ⟨h1, fun j hj => h2 j (Nat.zero_le _) hj⟩
  · exact .inr ⟨j, h1, h3, h4⟩
/-- an event of the one stands in the other one, as another one -/
def clash (b : List Ev) (e : Ev) : Prop := ∃ j : Nat, ix b e.T = (j : Int) ∧ b[j]! ≠ e
def fits (a b : List Ev) : Prop := ∀ i, i < a.length → ¬ clash b (a[i]!)
open Classical in
noncomputable def may (a b : List Ev) : Int := if chk a ≠ 0 then chk a else if chk b ≠ 0 then chk b else if fits a b then 0 else 16
end Mrg
end Go.Proofs.YtkoijdmlehkhbaaGreatDoor
namespace Go.Proofs.YtkoijdmlehkhbaaGreatDoor
open Go Go.J
attribute [local irreducible] At AtQ AtM AtM1 PR Ct Pu Rd Res.blk Res.own Res.ex RVs RV
namespace Mrg
open Wide Ev
open Classical in
/-- a list and an error: the list, if there is none -/
noncomputable def out (a b : List Ev) (l : List Ev) : List Ev := if may a b = 0 then l else []
end Mrg
end Go.Proofs.YtkoijdmlehkhbaaGreatDoor
namespace Go.Proofs.YtkoijdmlehkhbaaGreatDoor
open Go Go.J
attribute [local irreducible] At AtQ AtM AtM1 PR Ct Pu Rd Res.blk Res.own Res.ex RVs RV
namespace Mrg
open Wide Ev
def posF (l : List Ev) (t : Int) : Nat → Nat → Nat
  | i, 0 => i
  | i, k + 1 => if (l[i]!).T < t then posF l t (i + 1) k else i
def pos (l : List Ev) (t : Int) : Nat := posF l t 0 l.length
theorem posF_le (l : List Ev) (t : Int) : ∀ (k i : Nat), posF l t i k ≤ i + k
  | 0, i => Nat.le_refl _
  | k + 1, i => by
    unfold posF
    split
    · have := posF_le l t k (i + 1); omega
    · omega
def ins (l : List Ev) (e : Ev) : List Ev := l.take (pos l e.T) ++ ([e] ++ l.drop (pos l e.T))
def step (a : List Ev) (O : List Ev) (e : Ev) : List Ev := if 0 ≤ ix a e.T then O else ins O e
def two (a b : List Ev) : List Ev := b.foldl (step a) a
end Mrg
end Go.Proofs.YtkoijdmlehkhbaaGreatDoor
namespace Go.Proofs.YtkoijdmlehkhbaaGreatDoor
open Go Go.J
attribute [local irreducible] At AtQ AtM AtM1 PR Ct Pu Rd Res.blk Res.own Res.ex RVs RV
namespace Mrg
abbrev fn (a : Int) : List Value := [.int .i64 a]
instance : Fl fn 1 := ⟨fun _ => rfl, fun x v h => by simp at h; subst h; rfl, by decide⟩
theorem index {m : Mem} (p : Option Addr) (c : Nat) (l : List Int) (v : Int) (hl : l.length ≤ 1000000) (sl0 : Sl m fn 1 p c l) :
    Ct Tryz.prog 158 #[.slice p l.length c, .int .i64 v] m [] (fun r m' B => m = m' ∧ B = [] ∧ ∃ k : Int, r = .int .i64 k ∧ (0 ≤ k ↔ v ∈ l)) := by
  refine Ct.enterV (by rfl) Tryz.func158 rfl Tryz.ntmps158 rfl (fun w0 Rest => ?_)
  (repeat' (first | refine zss ?_ | refine zsM ?_ | (refine zsp ?_ ?_ <;> (intro hc; (try simp only [zhcs, reduceCtorEq] at hc); (try (exfalso; first | contradiction | omega | exact absurd rfl hc | exact absurd (by decide) hc))))))
  (refine At.loopk (σ := Nat) [0, 1, 7] (fun s F0 => (8, .int .i64 (s : Int)) :: F0) (fun s => m) (fun s => Rest) (fun s => s ≤ l.length ∧ ∀ i, i < s → l[i]! ≠ v) (fun s => l.length - s) 0 (by rfl) ?_ zsubs zml zente ?_)
  · exact ⟨Nat.zero_le _, fun i h => absurd h (Nat.not_lt_zero i)⟩
  rintro s ⟨hs, hn⟩
  by_cases h : s < l.length
  · by_cases e : l[s]! = v
    · have hmem : v ∈ l := by rw [← e, getElem!_pos l s h]; exact List.getElem_mem h
      (repeat' (first | refine zss ?_ | refine zsM ?_ | (refine zsp ?_ ?_ <;> (intro hc; (try simp only [zhcs, reduceCtorEq] at hc); (try (exfalso; first | omega | contradiction | omega | exact absurd rfl hc | exact absurd (by decide) hc))))))
      all_goals ((with_reducible apply At.retB1 (B := [])); exact rfl; exact rfl; exact zml; exact zkp; exact ⟨rfl, rfl, _, rfl, ⟨fun _ => hmem, fun _ => by omega⟩⟩)
    · have hnn : ∀ i, i < s + 1 → l[i]! ≠ v := fun i hi => by
        by_cases e1 : i = s
        · subst e1; exact e
        · exact hn i (by omega)
      (repeat' (first | refine zss ?_ | refine zsM ?_ | (refine zsp ?_ ?_ <;> (intro hc; (try simp only [zhcs, reduceCtorEq] at hc); (try (exfalso; first | omega | contradiction | omega | exact absurd rfl hc | exact absurd (by decide) hc))))))
      all_goals ((with_reducible refine At.reachk ((s + 1)) ?_ ?_ ?_ ?_); exact zsubs; exact zml; exact zente; exact ⟨⟨h, hnn⟩, by omega⟩)
  · have hno : ¬ v ∈ l := fun hm => by
      obtain ⟨i, hi, he⟩ := List.mem_iff_getElem.1 hm
      exact hn i (by omega) (by rw [getElem!_pos l i hi]; exact he)
    (repeat' (first | refine zss ?_ | refine zsM ?_ | (refine zsp ?_ ?_ <;> (intro hc; (try simp only [zhcs, reduceCtorEq] at hc); (try (exfalso; first | omega | contradiction | omega | exact absurd rfl hc | exact absurd (by decide) hc))))))
    all_goals ((with_reducible apply At.retB1 (B := [])); exact rfl; exact rfl; exact zml; exact zkp; exact ⟨rfl, rfl, _, rfl, ⟨fun hh => absurd hh (by decide), fun hh => absurd hh hno⟩⟩)
theorem contains {m : Mem} (p : Option Addr) (c : Nat) (l : List Int) (v : Int) (hl : l.length ≤ 1000000) (sl0 : Sl m fn 1 p c l) :
    Rd Tryz.prog 110 #[.slice p l.length c, .int .i64 v] m [] (.bool (decide (v ∈ l))) := by
  unfold Rd
  refine Ct.enterV (by rfl) Tryz.func110 rfl Tryz.ntmps110 rfl (fun w0 Rest => ?_)
  (repeat' (first | refine zss ?_ | refine zsM ?_ | ((with_reducible first | apply At.c1 | apply At.c0); exact rfl; exact rfl; exact index p c l v hl sl0; exact ztk; kernel_rfl; rintro v' m' B' hm' ⟨rfl, rfl, k, rfl, hk⟩; (try replace sl0 := sl0.mono hm'); (try (have hq0 : hm' = Mem.le_refl _ := rfl; clear hq0 hm'))) | (refine zsp ?_ ?_ <;> (intro hc; (try simp only [zhcs, reduceCtorEq] at hc); (try (exfalso; first | contradiction | omega | exact absurd rfl hc | exact absurd (by decide) hc))))))
  all_goals ((with_reducible apply At.retB1 (B := [])); exact rfl; exact rfl; exact zml; exact zkp; exact ⟨congrArg Value.bool (by rw [decide_eq_decide]; exact hk), rfl, rfl⟩)
end Mrg
end Go.Proofs.YtkoijdmlehkhbaaGreatDoor
namespace Go.Proofs.YtkoijdmlehkhbaaGreatDoor
open Go Go.J
attribute [local irreducible] At AtQ AtM AtM1 PR Ct Pu Rd Res.blk Res.own Res.ex RVs RV
namespace Mrg
open Ev
abbrev ptr (b : Nat) : Value := .pointer (some ⟨b, 0, none⟩)
def tk (ws : List Int) (who : Int) (L : List Ev) (e : Ev) : List Ev := if who ∈ ws then L ++ [e] else L
/-- what the closure has: whose events, and those it took -/
abbrev tr (b5 b8 : Nat) (pw : Option Addr) (cw : Nat) (ws : List Int) (p : Option Addr) (c : Nat) (L : List Ev) : List Res :=
  [.blk b5 48 [.slice pw ws.length cw], .blk b8 51 [.slice p L.length c], .own cells 4 57 p c L]
theorem take_ {m : Mem} (b5 b8 : Nat) (pw : Option Addr) (cw : Nat) (ws : List Int) (p : Option Addr) (c : Nat) (L : List Ev) (e : Ev) (who : Int) (hw : ws.length ≤ 1000) (hL : L.length ≤ 4000000) (sl0 : Sl m fn 1 pw cw ws) :
    Ct Tryz.prog 109 #[e.v, .int .i64 who, ptr b5, ptr b8] m (tr b5 b8 pw cw ws p c L) (fun v m' B => v = .tuple #[] ∧ m = m' ∧ ∃ p' c', B = tr b5 b8 pw cw ws p' c' (tk ws who L e)) := by
  by_cases h : who ∈ ws
  · have ht : tk ws who L e = L ++ [e] := if_pos h
    rw [ht]
    refine Ct.enterV (by rfl) Tryz.func109 rfl Tryz.ntmps109 rfl (fun w0 Rest => ?_)
    (repeat' (first | refine zss ?_ | refine zsOM ?_ | ((with_reducible first | apply AtM1.cr | apply AtQ.cr | apply At.cr); exact rfl; exact rfl; exact fun _ hmm => decide_eq_true h ▸ contains pw cw ws who (by omega) (sl0.mono hmm); exact ztk; kernel_rfl) | ((with_reducible apply At.lit cells [e]); exact inferInstance; (iterate 7 exact rfl); intro _) | ((with_reducible apply At.apW (f := cells)); exact rfl; exact rfl; exact (by repeat constructor); exact inferInstance; exact zrdl; (iterate 4 exact rfl); exact zom; exact rfl; intro p2 c2) | ((with_reducible apply At.box (d := 4)); exact rfl; exact rfl; exact rfl; intro b4) | (refine zsp ?_ ?_ <;> (intro hc; (try simp only [zhcs, reduceCtorEq] at hc); (try (exfalso; first | omega | contradiction | omega | exact absurd rfl hc | exact absurd (by decide) hc))))))
    all_goals ((first | (with_reducible apply At.retB0 (B := [.blk b5 _ _, .blk b8 _ _, .own cells 4 57 _ _ (L ++ [e])])) | (with_reducible apply At.retR0 (B := [.blk b5 _ _, .blk b8 _ _, .own cells 4 57 _ _ (L ++ [e])]))); exact rfl; exact zml; exact zkp; exact ⟨rfl, rfl, _, _, rfl⟩)
  · have ht : tk ws who L e = L := if_neg h
    rw [ht]
    refine Ct.enterV (by rfl) Tryz.func109 rfl Tryz.ntmps109 rfl (fun w0 Rest => ?_)
    (repeat' (first | refine zss ?_ | refine zsOM ?_ | ((with_reducible first | apply AtM1.cr | apply AtQ.cr | apply At.cr); exact rfl; exact rfl; exact fun _ hmm => decide_eq_false h ▸ contains pw cw ws who (by omega) (sl0.mono hmm); exact ztk; kernel_rfl) | ((with_reducible apply At.box (d := 4)); exact rfl; exact rfl; exact rfl; intro b4) | (refine zsp ?_ ?_ <;> (intro hc; (try simp only [zhcs, reduceCtorEq] at hc); (try (exfalso; first | omega | contradiction | omega | exact absurd rfl hc | exact absurd (by decide) hc))))))
    all_goals ((first | (with_reducible apply At.retB0 (B := [.blk b5 _ _, .blk b8 _ _, .own cells 4 57 _ _ L])) | (with_reducible apply At.retR0 (B := [.blk b5 _ _, .blk b8 _ _, .own cells 4 57 _ _ L]))); exact rfl; exact zml; exact zkp; exact ⟨rfl, rfl, _, _, rfl⟩)
end Mrg
end Go.Proofs.YtkoijdmlehkhbaaGreatDoor
namespace Go.Proofs.YtkoijdmlehkhbaaGreatDoor
open Go Go.J
attribute [local irreducible] At AtQ AtM AtM1 PR Ct Pu Rd Res.blk Res.own Res.ex RVs RV
namespace Mrg
open Ev
def mg (ws : List Int) : List Ev → List Ev → List Ev → Option (List Ev × List Ev × List Ev)
  | [], b, O => some ([], b, O)
  | x :: a, [], O => some (x :: a, [], O)
  | x :: a, y :: b, O => if x = y then mg ws a b (tk ws 2 O x) else if x.T < y.T then mg ws a (y :: b) (tk ws 0 O x) else if y.T < x.T then mg ws (x :: a) b (tk ws 1 O y) else none
termination_by a b => a.length + b.length
theorem tk_len (ws : List Int) (w : Int) (O : List Ev) (e : Ev) : (tk ws w O e).length ≤ O.length + 1 := by
  unfold tk; split <;> simp
structure WS where
  (A : List Ev) (pa : Option Addr) (ca : Nat) (B : List Ev) (pb : Option Addr) (cb : Nat) (O : List Ev) (p : Option Addr) (c : Nat)
theorem walk1 {m : Mem} (b5 b8 : Nat) (pw : Option Addr) (cw : Nat) (ws : List Int) (pa : Option Addr) (ca : Nat) (a : List Ev) (pb : Option Addr) (cb : Nat) (b : List Ev) (p : Option Addr) (c : Nat) (L : List Ev)
    (hw : ws.length ≤ 1000) (ha : a.length ≤ 1000000) (hb : b.length ≤ 1000000) (hL : L.length ≤ 1000000) (sl0 : Sl m fn 1 pw cw ws) (sl1 : Sl m cells 4 pa ca a) (sl2 : Sl m cells 4 pb cb b) (h1 : chk a = 0) (h2 : chk b = 0) (hm : mg ws a b L = none) :
    Ct Tryz.prog 108 #[.slice pa a.length ca, .slice pb b.length cb, .func (.func 109) #[] #[ptr b5, ptr b8]] m (tr b5 b8 pw cw ws p c L) (fun v m' B => v = .int .i64 16 ∧ m = m' ∧ ∃ p' c' L', B = tr b5 b8 pw cw ws p' c' L') := by
  have k1 : ∀ m', m.le m' → Rd Tryz.prog 157 #[.slice pa a.length ca] m' [] (.int .i64 0) := fun m' hm => h1 ▸ check pa ca a ha (sl1.mono hm)
  have k2 : ∀ m', m.le m' → Rd Tryz.prog 157 #[.slice pb b.length cb] m' [] (.int .i64 0) := fun m' hm => h2 ▸ check pb cb b hb (sl2.mono hm)
  refine Ct.enterV (by rfl) Tryz.func108 rfl Tryz.ntmps108 rfl (fun w0 Rest => ?_)
  (repeat' (first | refine zss ?_ | refine zsM ?_ | ((with_reducible first | apply AtM1.cr | apply AtQ.cr | apply At.cr); exact rfl; exact rfl; exact fun _ hmm => k1 _ hmm; exact ztk; kernel_rfl) | ((with_reducible first | apply AtM1.cr | apply AtQ.cr | apply At.cr); exact rfl; exact rfl; exact fun _ hmm => k2 _ hmm; exact ztk; kernel_rfl) | ((with_reducible apply At.alloc (d := 10)); exact rfl; exact rfl; intro b10) | ((with_reducible apply At.alloc (d := 12)); exact rfl; exact rfl; intro b12) | (refine zsp ?_ ?_ <;> (intro hc; (try simp only [zhcs, reduceCtorEq] at hc); (try (exfalso; first | omega | contradiction | omega | exact absurd rfl hc | exact absurd (by decide) hc))))))
  (refine At.loopk (σ := WS) [2] (fun s F0 => (0, .slice s.pa s.A.length s.ca) :: (1, .slice s.pb s.B.length s.cb) :: F0) (fun s => m) (fun s => .blk b5 48 [.slice pw ws.length cw] :: .blk b8 51 [.slice s.p s.O.length s.c] :: .own cells 4 57 s.p s.c s.O :: Rest) (fun s => Sl m cells 4 s.pa s.ca s.A ∧ Sl m cells 4 s.pb s.cb s.B ∧ mg ws s.A s.B s.O = none ∧ s.A.length ≤ 1000000 ∧ s.B.length ≤ 1000000 ∧ s.O.length + s.A.length + s.B.length ≤ 3000000) (fun s => s.A.length + s.B.length) ⟨a, pa, ca, b, pb, cb, L, p, c⟩ (by rfl) ?_ zsubs zml zente ?_)
  · exact ⟨sl1, sl2, hm, ha, hb, by show L.length + a.length + b.length ≤ _; omega⟩
  rintro ⟨A, qa, da, B, qb, db, O, q, d⟩ ⟨sl3, sl4, g1, g2, g3, g4⟩
  dsimp only at sl3 sl4 g1 g2 g3 g4 ⊢
  rcases A with _ | ⟨x, A⟩
  · rw [mg] at g1; cases g1
  rcases B with _ | ⟨y, B⟩
  · rw [mg] at g1; cases g1
  rw [mg] at g1
  simp only [List.length_cons] at g2 g3 g4
  by_cases e1 : x = y
  · rw [if_pos e1] at g1
    have hl := tk_len ws 2 O x
    (repeat' (first | refine zss ?_ | ((first | (with_reducible first | apply At.val | apply AtQ.val)); (first | exact pr_eveq (by rfl) (by rfl) | exact pr_fieldAddr_at (k := 0 * 4) (by rfl) (by rfl)); exact rfl) | refine zsOM ?_ | ((with_reducible apply At.callf); exact rfl; kernel_rfl; exact rfl; exact rfl; exact take_ b5 b8 pw cw ws q d O x 2 hw (by omega) sl0; exact ztk; rintro v' m' B' hm' ⟨rfl, rfl, p2, c2, rfl⟩; (try replace sl0 := sl0.mono hm'); (try replace sl1 := sl1.mono hm'); (try replace sl2 := sl2.mono hm'); (try replace sl3 := sl3.mono hm'); (try replace sl4 := sl4.mono hm')) | ((with_reducible apply At.alloc (d := 10)); exact rfl; exact rfl; intro b10) | ((with_reducible apply At.alloc (d := 12)); exact rfl; exact rfl; intro b12) | (refine zsp ?_ ?_ <;> (intro hc; (try simp only [zhcs, reduceCtorEq] at hc); (try (exfalso; first | (first | omega | (simp only [List.length_cons] at hc; omega) | exact absurd e1 hc | exact absurd hc e1) | contradiction | omega | exact absurd rfl hc | exact absurd (by decide) hc))))))
    all_goals ((with_reducible refine At.reachk (⟨A, subp qa da 1 4, da - 1, B, subp qb db 1 4, db - 1, tk ws 2 O x, p2, c2⟩) ?_ ?_ ?_ ?_); exact zsubs; exact zml; exact zente; exact ⟨⟨Sl.subl sl3 1 (by simp), Sl.subl sl4 1 (by simp), g1, by dsimp only [List.length_cons]; omega, by dsimp only [List.length_cons]; omega, by dsimp only [List.length_cons]; omega⟩, by dsimp only [List.length_cons]; omega⟩)
  · rw [if_neg e1] at g1
    by_cases e2 : x.T < y.T
    · rw [if_pos e2] at g1
      have hl := tk_len ws 0 O x
      (repeat' (first | refine zss ?_ | ((first | (with_reducible first | apply At.val | apply AtQ.val)); (first | exact pr_eveq (by rfl) (by rfl) | exact pr_fieldAddr_at (k := 0 * 4) (by rfl) (by rfl)); exact rfl) | refine zsOM ?_ | ((with_reducible apply At.callf); exact rfl; kernel_rfl; exact rfl; exact rfl; exact take_ b5 b8 pw cw ws q d O x 0 hw (by omega) sl0; exact ztk; rintro v' m' B' hm' ⟨rfl, rfl, p2, c2, rfl⟩; (try replace sl0 := sl0.mono hm'); (try replace sl1 := sl1.mono hm'); (try replace sl2 := sl2.mono hm'); (try replace sl3 := sl3.mono hm'); (try replace sl4 := sl4.mono hm')) | ((with_reducible apply At.alloc (d := 10)); exact rfl; exact rfl; intro b10) | ((with_reducible apply At.alloc (d := 12)); exact rfl; exact rfl; intro b12) | (refine zsp ?_ ?_ <;> (intro hc; (try simp only [zhcs, reduceCtorEq] at hc); (try (exfalso; first | (first | omega | (simp only [List.length_cons] at hc; omega) | exact absurd e1 hc | exact absurd hc e1) | contradiction | omega | exact absurd rfl hc | exact absurd (by decide) hc))))))
      all_goals ((with_reducible refine At.reachk (⟨A, subp qa da 1 4, da - 1, y :: B, qb, db, tk ws 0 O x, p2, c2⟩) ?_ ?_ ?_ ?_); exact zsubs; exact zml; exact zente; exact ⟨⟨Sl.subl sl3 1 (by simp), sl4, g1, by dsimp only [List.length_cons]; omega, by dsimp only [List.length_cons]; omega, by dsimp only [List.length_cons]; omega⟩, by dsimp only [List.length_cons]; omega⟩)
    · rw [if_neg e2] at g1
      by_cases e3 : y.T < x.T
      · rw [if_pos e3] at g1
        have hl := tk_len ws 1 O y
        (repeat' (first | refine zss ?_ | ((first | (with_reducible first | apply At.val | apply AtQ.val)); (first | exact pr_eveq (by rfl) (by rfl) | exact pr_fieldAddr_at (k := 0 * 4) (by rfl) (by rfl)); exact rfl) | refine zsOM ?_ | ((with_reducible apply At.callf); exact rfl; kernel_rfl; exact rfl; exact rfl; exact take_ b5 b8 pw cw ws q d O y 1 hw (by omega) sl0; exact ztk; rintro v' m' B' hm' ⟨rfl, rfl, p2, c2, rfl⟩; (try replace sl0 := sl0.mono hm'); (try replace sl1 := sl1.mono hm'); (try replace sl2 := sl2.mono hm'); (try replace sl3 := sl3.mono hm'); (try replace sl4 := sl4.mono hm')) | ((with_reducible apply At.alloc (d := 10)); exact rfl; exact rfl; intro b10) | ((with_reducible apply At.alloc (d := 12)); exact rfl; exact rfl; intro b12) | (refine zsp ?_ ?_ <;> (intro hc; (try simp only [zhcs, reduceCtorEq] at hc); (try (exfalso; first | (first | omega | (simp only [List.length_cons] at hc; omega) | exact absurd e1 hc | exact absurd hc e1) | contradiction | omega | exact absurd rfl hc | exact absurd (by decide) hc))))))
        all_goals ((with_reducible refine At.reachk (⟨x :: A, qa, da, B, subp qb db 1 4, db - 1, tk ws 1 O y, p2, c2⟩) ?_ ?_ ?_ ?_); exact zsubs; exact zml; exact zente; exact ⟨⟨sl3, Sl.subl sl4 1 (by simp), g1, by dsimp only [List.length_cons]; omega, by dsimp only [List.length_cons]; omega, by dsimp only [List.length_cons]; omega⟩, by dsimp only [List.length_cons]; omega⟩)
      · (repeat' (first | refine zss ?_ | ((first | (with_reducible first | apply At.val | apply AtQ.val)); (first | exact pr_eveq (by rfl) (by rfl) | exact pr_fieldAddr_at (k := 0 * 4) (by rfl) (by rfl)); exact rfl) | refine zsOM ?_ | ((with_reducible apply At.alloc (d := 10)); exact rfl; exact rfl; intro b10) | ((with_reducible apply At.alloc (d := 12)); exact rfl; exact rfl; intro b12) | (refine zsp ?_ ?_ <;> (intro hc; (try simp only [zhcs, reduceCtorEq] at hc); (try (exfalso; first | (first | omega | (simp only [List.length_cons] at hc; omega) | exact absurd e1 hc | exact absurd hc e1) | contradiction | omega | exact absurd rfl hc | exact absurd (by decide) hc))))))
        all_goals ((with_reducible apply At.retB1 (B := [.blk b5 _ _, .blk b8 _ _, .own cells 4 57 _ _ O])); exact rfl; exact rfl; exact zml; exact zkp; exact ⟨rfl, rfl, _, _, _, rfl⟩)
end Mrg
end Go.Proofs.YtkoijdmlehkhbaaGreatDoor
namespace Go.Proofs.YtkoijdmlehkhbaaGreatDoor
open Go Go.J
attribute [local irreducible] At AtQ AtM AtM1 PR Ct Pu Rd Res.blk Res.own Res.ex RVs RV
namespace Mrg
open Ev
theorem tk_take (ws : List Int) (w : Int) (A O : List Ev) {k : Nat} (h : k < A.length) : (A.take (k + 1)).foldl (tk ws w) O = tk ws w ((A.take k).foldl (tk ws w) O) (A[k]!) := by
  have e : A.take (k + 1) = A.take k ++ [A[k]!] := by rw [List.take_add_one, getElem!_pos A k h]; simp [h]
  rw [e, List.foldl_append]; rfl
structure LS where
  (i : Nat) (O : List Ev) (p : Option Addr) (c : Nat)
theorem walk2 {m : Mem} (b5 b8 : Nat) (pw : Option Addr) (cw : Nat) (ws : List Int) (pa : Option Addr) (ca : Nat) (a : List Ev) (pb : Option Addr) (cb : Nat) (b : List Ev) (p : Option Addr) (c : Nat) (L : List Ev) (r : List Ev × List Ev × List Ev)
    (hw : ws.length ≤ 1000) (ha : a.length ≤ 1000000) (hb : b.length ≤ 1000000) (hL : L.length ≤ 1000000) (sl0 : Sl m fn 1 pw cw ws) (sl1 : Sl m cells 4 pa ca a) (sl2 : Sl m cells 4 pb cb b) (h1 : chk a = 0) (h2 : chk b = 0) (hm : mg ws a b L = some r) :
    Ct Tryz.prog 108 #[.slice pa a.length ca, .slice pb b.length cb, .func (.func 109) #[] #[ptr b5, ptr b8]] m (tr b5 b8 pw cw ws p c L) (fun v m' B => v = .int .i64 0 ∧ m = m' ∧ ∃ p' c', B = tr b5 b8 pw cw ws p' c' (r.2.1.foldl (tk ws 1) (r.1.foldl (tk ws 0) r.2.2))) := by
  have k1 : ∀ m', m.le m' → Rd Tryz.prog 157 #[.slice pa a.length ca] m' [] (.int .i64 0) := fun m' hm => h1 ▸ check pa ca a ha (sl1.mono hm)
  have k2 : ∀ m', m.le m' → Rd Tryz.prog 157 #[.slice pb b.length cb] m' [] (.int .i64 0) := fun m' hm => h2 ▸ check pb cb b hb (sl2.mono hm)
  refine Ct.enterV (by rfl) Tryz.func108 rfl Tryz.ntmps108 rfl (fun w0 Rest => ?_)
  (repeat' (first | refine zss ?_ | refine zsM ?_ | ((with_reducible first | apply AtM1.cr | apply AtQ.cr | apply At.cr); exact rfl; exact rfl; exact fun _ hmm => k1 _ hmm; exact ztk; kernel_rfl) | ((with_reducible first | apply AtM1.cr | apply AtQ.cr | apply At.cr); exact rfl; exact rfl; exact fun _ hmm => k2 _ hmm; exact ztk; kernel_rfl) | ((with_reducible apply At.alloc (d := 10)); exact rfl; exact rfl; intro b10) | ((with_reducible apply At.alloc (d := 12)); exact rfl; exact rfl; intro b12) | (refine zsp ?_ ?_ <;> (intro hc; (try simp only [zhcs, reduceCtorEq] at hc); (try (exfalso; first | omega | contradiction | omega | exact absurd rfl hc | exact absurd (by decide) hc))))))
  (refine At.loopk (σ := WS) [2] (fun s F0 => (0, .slice s.pa s.A.length s.ca) :: (1, .slice s.pb s.B.length s.cb) :: F0) (fun s => m) (fun s => .blk b5 48 [.slice pw ws.length cw] :: .blk b8 51 [.slice s.p s.O.length s.c] :: .own cells 4 57 s.p s.c s.O :: Rest) (fun s => Sl m cells 4 s.pa s.ca s.A ∧ Sl m cells 4 s.pb s.cb s.B ∧ mg ws s.A s.B s.O = some r ∧ s.A.length ≤ 1000000 ∧ s.B.length ≤ 1000000 ∧ s.O.length + s.A.length + s.B.length ≤ 3000000) (fun s => s.A.length + s.B.length) ⟨a, pa, ca, b, pb, cb, L, p, c⟩ (by rfl) ?_ zsubs zml zente ?_)
  · exact ⟨sl1, sl2, hm, ha, hb, by show L.length + a.length + b.length ≤ _; omega⟩
  rintro ⟨A, qa, da, B, qb, db, O, q, d⟩ ⟨sl3, sl4, g1, g2, g3, g4⟩
  dsimp only at sl3 sl4 g1 g2 g3 g4 ⊢
  by_cases hend : A = [] ∨ B = []
  · have hr : r = (A, B, O) := by
      rcases A with _ | ⟨x, A⟩
      · rw [mg] at g1; exact (Option.some.inj g1).symm
      · rcases B with _ | ⟨y, B⟩
        · rw [mg] at g1; exact (Option.some.inj g1).symm
        · rcases hend with h | h <;> cases h
    subst hr
    have hz : A.length = 0 ∨ B.length = 0 := by rcases hend with h | h <;> simp [h]
    dsimp only
    (repeat' (first | refine zss ?_ | refine zsOM ?_ | ((with_reducible apply At.alloc (d := 10)); exact rfl; exact rfl; intro b10) | ((with_reducible apply At.alloc (d := 12)); exact rfl; exact rfl; intro b12) | (refine zsp ?_ ?_ <;> (intro hc; (try simp only [zhcs, reduceCtorEq] at hc); (try (exfalso; first | omega | contradiction | omega | exact absurd rfl hc | exact absurd (by decide) hc))))))
    all_goals
      (refine At.loopk (σ := LS) [1, 2, 82, 83] (fun s F0 => (84, .int .i64 (s.i : Int)) :: F0) (fun s => m) (fun s => .blk b5 48 [.slice pw ws.length cw] :: .blk b8 51 [.slice s.p s.O.length s.c] :: .own cells 4 57 s.p s.c s.O :: Rest) (fun s => s.i ≤ A.length ∧ s.O = (A.take s.i).foldl (tk ws 0) O ∧ s.O.length ≤ O.length + s.i) (fun s => A.length - s.i) ⟨0, O, q, d⟩ (by rfl) ?_ zsubs zml zente ?_)
      · exact ⟨Nat.zero_le _, rfl, Nat.le_refl _⟩
      rintro ⟨i, O1, q1, d1⟩ ⟨f1, f2, f3⟩
      dsimp only at f1 f2 f3 ⊢
      by_cases h : i < A.length
      · have ht := tk_take ws 0 A O h
        have hl := tk_len ws 0 O1 (A[i]!)
        (repeat' (first | refine zss ?_ | refine zsOM ?_ | ((with_reducible apply At.callf); exact rfl; kernel_rfl; exact rfl; exact rfl; exact take_ b5 b8 pw cw ws q1 d1 O1 (A[i]!) 0 hw (by omega) sl0; exact ztk; rintro v' m' B' hm' ⟨rfl, rfl, p2, c2, rfl⟩; (try replace sl0 := sl0.mono hm'); (try replace sl1 := sl1.mono hm'); (try replace sl2 := sl2.mono hm'); (try replace sl3 := sl3.mono hm'); (try replace sl4 := sl4.mono hm')) | ((with_reducible apply At.alloc (d := 10)); exact rfl; exact rfl; intro b10) | ((with_reducible apply At.alloc (d := 12)); exact rfl; exact rfl; intro b12) | (refine zsp ?_ ?_ <;> (intro hc; (try simp only [zhcs, reduceCtorEq] at hc); (try (exfalso; first | omega | contradiction | omega | exact absurd rfl hc | exact absurd (by decide) hc))))))
        all_goals ((with_reducible refine At.reachk (⟨i + 1, tk ws 0 O1 (A[i]!), p2, c2⟩) ?_ ?_ ?_ ?_); exact zsubs; exact zml; exact zente; exact ⟨⟨h, by show _ = _; rw [ht, ← f2], by dsimp only; omega⟩, by dsimp only; omega⟩)
      · rw [List.take_of_length_le (by omega)] at f2
        rw [← f2]
        (repeat' (first | refine zss ?_ | refine zsOM ?_ | ((with_reducible apply At.alloc (d := 10)); exact rfl; exact rfl; intro b10) | ((with_reducible apply At.alloc (d := 12)); exact rfl; exact rfl; intro b12) | (refine zsp ?_ ?_ <;> (intro hc; (try simp only [zhcs, reduceCtorEq] at hc); (try (exfalso; first | omega | contradiction | omega | exact absurd rfl hc | exact absurd (by decide) hc))))))
        (refine At.loopk (σ := LS) [2, 92, 93] (fun s F0 => (94, .int .i64 (s.i : Int)) :: F0) (fun s => m) (fun s => .blk b5 48 [.slice pw ws.length cw] :: .blk b8 51 [.slice s.p s.O.length s.c] :: .own cells 4 57 s.p s.c s.O :: Rest) (fun s => s.i ≤ B.length ∧ s.O = (B.take s.i).foldl (tk ws 1) O1 ∧ s.O.length ≤ O1.length + s.i) (fun s => B.length - s.i) ⟨0, O1, q1, d1⟩ (by rfl) ?_ zsubs zml zente ?_)
        · exact ⟨Nat.zero_le _, rfl, Nat.le_refl _⟩
        clear f2
        rintro ⟨j, O2, q2, d2⟩ ⟨e1, f2, e3⟩
        dsimp only at e1 f2 e3 ⊢
        by_cases h : j < B.length
        · have ht := tk_take ws 1 B O1 h
          have hl := tk_len ws 1 O2 (B[j]!)
          (repeat' (first | refine zss ?_ | refine zsOM ?_ | ((with_reducible apply At.callf); exact rfl; kernel_rfl; exact rfl; exact rfl; exact take_ b5 b8 pw cw ws q2 d2 O2 (B[j]!) 1 hw (by omega) sl0; exact ztk; rintro v' m' B' hm' ⟨rfl, rfl, p2, c2, rfl⟩; (try replace sl0 := sl0.mono hm'); (try replace sl1 := sl1.mono hm'); (try replace sl2 := sl2.mono hm'); (try replace sl3 := sl3.mono hm'); (try replace sl4 := sl4.mono hm')) | ((with_reducible apply At.alloc (d := 10)); exact rfl; exact rfl; intro b10) | ((with_reducible apply At.alloc (d := 12)); exact rfl; exact rfl; intro b12) | (refine zsp ?_ ?_ <;> (intro hc; (try simp only [zhcs, reduceCtorEq] at hc); (try (exfalso; first | omega | contradiction | omega | exact absurd rfl hc | exact absurd (by decide) hc))))))
          all_goals ((with_reducible refine At.reachk (⟨j + 1, tk ws 1 O2 (B[j]!), p2, c2⟩) ?_ ?_ ?_ ?_); exact zsubs; exact zml; exact zente; exact ⟨⟨h, by show _ = _; rw [ht, ← f2], by dsimp only; omega⟩, by dsimp only; omega⟩)
        · rw [List.take_of_length_le (by omega)] at f2
          rw [← f2]
          (repeat' (first | refine zss ?_ | refine zsOM ?_ | ((with_reducible apply At.alloc (d := 10)); exact rfl; exact rfl; intro b10) | ((with_reducible apply At.alloc (d := 12)); exact rfl; exact rfl; intro b12) | (refine zsp ?_ ?_ <;> (intro hc; (try simp only [zhcs, reduceCtorEq] at hc); (try (exfalso; first | omega | contradiction | omega | exact absurd rfl hc | exact absurd (by decide) hc))))))
          all_goals ((with_reducible apply At.retB1 (B := [.blk b5 _ _, .blk b8 _ _, .own cells 4 57 _ _ O2])); exact rfl; exact rfl; exact zml; exact zkp; exact ⟨rfl, rfl, _, _, rfl⟩)
  rcases A with _ | ⟨x, A⟩
  · exact absurd (.inl rfl) hend
  rcases B with _ | ⟨y, B⟩
  · exact absurd (.inr rfl) hend
  clear hend
  rw [mg] at g1
  simp only [List.length_cons] at g2 g3 g4
  by_cases e1 : x = y
  · rw [if_pos e1] at g1
    have hl := tk_len ws 2 O x
    (repeat' (first | refine zss ?_ | ((first | (with_reducible first | apply At.val | apply AtQ.val)); (first | exact pr_eveq (by rfl) (by rfl) | exact pr_fieldAddr_at (k := 0 * 4) (by rfl) (by rfl)); exact rfl) | refine zsOM ?_ | ((with_reducible apply At.callf); exact rfl; kernel_rfl; exact rfl; exact rfl; exact take_ b5 b8 pw cw ws q d O x 2 hw (by omega) sl0; exact ztk; rintro v' m' B' hm' ⟨rfl, rfl, p2, c2, rfl⟩; (try replace sl0 := sl0.mono hm'); (try replace sl1 := sl1.mono hm'); (try replace sl2 := sl2.mono hm'); (try replace sl3 := sl3.mono hm'); (try replace sl4 := sl4.mono hm')) | ((with_reducible apply At.alloc (d := 10)); exact rfl; exact rfl; intro b10) | ((with_reducible apply At.alloc (d := 12)); exact rfl; exact rfl; intro b12) | (refine zsp ?_ ?_ <;> (intro hc; (try simp only [zhcs, reduceCtorEq] at hc); (try (exfalso; first | (first | omega | (simp only [List.length_cons] at hc; omega) | exact absurd e1 hc | exact absurd hc e1) | contradiction | omega | exact absurd rfl hc | exact absurd (by decide) hc))))))
    all_goals ((with_reducible refine At.reachk (⟨A, subp qa da 1 4, da - 1, B, subp qb db 1 4, db - 1, tk ws 2 O x, p2, c2⟩) ?_ ?_ ?_ ?_); exact zsubs; exact zml; exact zente; exact ⟨⟨Sl.subl sl3 1 (by simp), Sl.subl sl4 1 (by simp), g1, by dsimp only [List.length_cons]; omega, by dsimp only [List.length_cons]; omega, by dsimp only [List.length_cons]; omega⟩, by dsimp only [List.length_cons]; omega⟩)
  · rw [if_neg e1] at g1
    by_cases e2 : x.T < y.T
    · rw [if_pos e2] at g1
      have hl := tk_len ws 0 O x
      (repeat' (first | refine zss ?_ | ((first | (with_reducible first | apply At.val | apply AtQ.val)); (first | exact pr_eveq (by rfl) (by rfl) | exact pr_fieldAddr_at (k := 0 * 4) (by rfl) (by rfl)); exact rfl) | refine zsOM ?_ | ((with_reducible apply At.callf); exact rfl; kernel_rfl; exact rfl; exact rfl; exact take_ b5 b8 pw cw ws q d O x 0 hw (by omega) sl0; exact ztk; rintro v' m' B' hm' ⟨rfl, rfl, p2, c2, rfl⟩; (try replace sl0 := sl0.mono hm'); (try replace sl1 := sl1.mono hm'); (try replace sl2 := sl2.mono hm'); (try replace sl3 := sl3.mono hm'); (try replace sl4 := sl4.mono hm')) | ((with_reducible apply At.alloc (d := 10)); exact rfl; exact rfl; intro b10) | ((with_reducible apply At.alloc (d := 12)); exact rfl; exact rfl; intro b12) | (refine zsp ?_ ?_ <;> (intro hc; (try simp only [zhcs, reduceCtorEq] at hc); (try (exfalso; first | (first | omega | (simp only [List.length_cons] at hc; omega) | exact absurd e1 hc | exact absurd hc e1) | contradiction | omega | exact absurd rfl hc | exact absurd (by decide) hc))))))
      all_goals ((with_reducible refine At.reachk (⟨A, subp qa da 1 4, da - 1, y :: B, qb, db, tk ws 0 O x, p2, c2⟩) ?_ ?_ ?_ ?_); exact zsubs; exact zml; exact zente; exact ⟨⟨Sl.subl sl3 1 (by simp), sl4, g1, by dsimp only [List.length_cons]; omega, by dsimp only [List.length_cons]; omega, by dsimp only [List.length_cons]; omega⟩, by dsimp only [List.length_cons]; omega⟩)
    · rw [if_neg e2] at g1
      by_cases e3 : y.T < x.T
      · rw [if_pos e3] at g1
        have hl := tk_len ws 1 O y
        (repeat' (first | refine zss ?_ | ((first | (with_reducible first | apply At.val | apply AtQ.val)); (first | exact pr_eveq (by rfl) (by rfl) | exact pr_fieldAddr_at (k := 0 * 4) (by rfl) (by rfl)); exact rfl) | refine zsOM ?_ | ((with_reducible apply At.callf); exact rfl; kernel_rfl; exact rfl; exact rfl; exact take_ b5 b8 pw cw ws q d O y 1 hw (by omega) sl0; exact ztk; rintro v' m' B' hm' ⟨rfl, rfl, p2, c2, rfl⟩; (try replace sl0 := sl0.mono hm'); (try replace sl1 := sl1.mono hm'); (try replace sl2 := sl2.mono hm'); (try replace sl3 := sl3.mono hm'); (try replace sl4 := sl4.mono hm')) | ((with_reducible apply At.alloc (d := 10)); exact rfl; exact rfl; intro b10) | ((with_reducible apply At.alloc (d := 12)); exact rfl; exact rfl; intro b12) | (refine zsp ?_ ?_ <;> (intro hc; (try simp only [zhcs, reduceCtorEq] at hc); (try (exfalso; first | (first | omega | (simp only [List.length_cons] at hc; omega) | exact absurd e1 hc | exact absurd hc e1) | contradiction | omega | exact absurd rfl hc | exact absurd (by decide) hc))))))
        all_goals ((with_reducible refine At.reachk (⟨x :: A, qa, da, B, subp qb db 1 4, db - 1, tk ws 1 O y, p2, c2⟩) ?_ ?_ ?_ ?_); exact zsubs; exact zml; exact zente; exact ⟨⟨sl3, Sl.subl sl4 1 (by simp), g1, by dsimp only [List.length_cons]; omega, by dsimp only [List.length_cons]; omega, by dsimp only [List.length_cons]; omega⟩, by dsimp only [List.length_cons]; omega⟩)
      · rw [if_neg e3] at g1; cases g1
end Mrg
end Go.Proofs.YtkoijdmlehkhbaaGreatDoor
