/- TopGone: a series that does not live at some time lives at no later one; nothing of it bars what may be written. No condition. -/
import Derived.Test.YtmjoncbnlaoggaaTop9GZ10
/- TopGone: a series that does not live at some time lives at no later one; nothing of it bars what may be written. No condition. -/
set_option linter.unusedSimpArgs false
set_option linter.unusedVariables false
set_option linter.unusedSectionVars false
set_option maxRecDepth 20000
set_option maxHeartbeats 4000000
namespace Go.Proofs.Ytmjoncbnlaoggaa
open Go Go.J
attribute [local irreducible] At AtQ AtM AtM1 PR Ct Pu Rd Res.blk Res.own Res.ex RVs RV
namespace Ru
open Se Win St
/-- what is there, and does not live -/
def gon (u : Sta) (i : Nat) : Bool := !liv u u.pl.l[i]! && !emp u.pl.l[i]!
/-- the places ahead of i, without those -/
structure Gn (u : Sta) (i : Nat) (L : List Ser) : Prop where
  len : L.length = u.pl.l.length
  at_ : ∀ k, k < u.pl.l.length → L[k]! = if k < i ∧ gon u k = true then Ser.z else u.pl.l[k]!
theorem Gn.zero (u : Sta) : Gn u 0 u.pl.l := ⟨rfl, fun k _ => by rw [if_neg (fun h => absurd h.1 (Nat.not_lt_zero k))]⟩
theorem Gn.keep {u : Sta} {i : Nat} {L : List Ser} (h : Gn u i L) (hg : gon u i = false) : Gn u (i + 1) L := ⟨h.len, fun k hk => by
  rw [h.at_ k hk]
  by_cases e : k = i
  · subst e
    rw [if_neg (fun g => absurd g.1 (Nat.lt_irrefl k)), if_neg (fun g => by rw [hg] at g; exact absurd g.2 (by decide))]
  · by_cases g : k < i ∧ gon u k = true
    · rw [if_pos g, if_pos ⟨by omega, g.2⟩]
    · rw [if_neg g, if_neg (fun q => g ⟨by omega, q.2⟩)]⟩
theorem Gn.away {u : Sta} {i : Nat} {L : List Ser} (h : Gn u i L) (hi : i < u.pl.l.length) (hg : gon u i = true) : Gn u (i + 1) (L.set i Ser.z) := ⟨by rw [List.length_set]; exact h.len, fun k hk => by
  rw [getElem!_pos _ k (by rw [List.length_set, h.len]; exact hk), List.getElem_set]
  by_cases e : i = k
  · subst e
    rw [if_pos rfl, if_pos ⟨by omega, hg⟩]
  · rw [if_neg e]
    have := h.at_ k hk
    rw [getElem!_pos L k (by rw [h.len]; exact hk)] at this
    rw [this]
    by_cases g : k < i ∧ gon u k = true
    · rw [if_pos g, if_pos ⟨by omega, g.2⟩]
    · rw [if_neg g, if_neg (fun q => g ⟨by omega, q.2⟩)]⟩
abbrev withP (u : Sta) (p : Option Addr) (c : Nat) (L : List Ser) : Sta := { u with pl := ⟨p, c, L⟩ }
theorem Gn.to {u : Sta} {L : List Ser} (h : Gn u u.pl.l.length L) (p : Option Addr) (c : Nat) : Away u (withP u p c L) := ⟨rfl, rfl, rfl, h.len, fun i hi => by
  have := h.at_ i hi
  show L[i]! = _ ∨ (L[i]! = _ ∧ _)
  by_cases g : gon u i = true
  · rw [if_pos ⟨hi, g⟩] at this
    unfold gon at g
    rw [Bool.and_eq_true] at g
    exact .inr ⟨this, by simpa using g.1⟩
  · rw [if_neg (fun q => g q.2)] at this
    exact .inl this⟩
theorem Gn.lay {m : Mem} {u : Sta} {L : List Ser} {i : Nat} {p : Option Addr} {c : Nat} (h : Gn u i L) (ho : u.Ok m) (sl : Sl m Ser.cells 23 p c L) : (withP u p c L).Ok m where
  sl := sl
  pk := fun x hx => by
    obtain ⟨k, hk, e⟩ := List.mem_iff_getElem.1 hx
    have hk' : k < u.pl.l.length := by rw [← h.len]; exact hk
    have := h.at_ k hk'
    rw [getElem!_pos L k hk, e] at this
    rw [this]
    split
    · exact zok m
    · exact ho.at hk'
  np := by show L.length ≤ 1000000; rw [h.len]; exact ho.np
  bn := ho.bn
  bs := ho.bs
abbrev svc (u : Sta) (p : Option Addr) (c : Nat) : Value := .agg #[.int .i64 u.k.r, .int .i64 u.k.a, .int .i64 u.k.b, .int .i64 u.k.d, .int .i64 u.k.x, .int .i64 u.k.y, .int .i64 u.k.w, .int .i64 u.k.c, .int .i64 u.k.g, .int .i64 u.now, .int .i64 u.swept, .slice p u.pl.l.length c]
theorem withP_v {u : Sta} {p : Option Addr} {c : Nat} {L : List Ser} (h : L.length = u.pl.l.length) : (withP u p c L).v = svc u p c := by
  show Value.agg #[_, _, _, _, _, _, _, _, _, _, _, (⟨p, c, L⟩ : Lst Ser).v] = _
  rw [show (⟨p, c, L⟩ : Lst Ser).v = .slice p u.pl.l.length c by show Value.slice p L.length c = _; rw [h]]
structure GS where
  (i : Nat) (d : Bool) (L : List Ser)
set_option maxRecDepth 100000 in
theorem goneL {m : Mem} (u : Sta) (l : Lst Lab) (e : Ev) (n : Int) (hu : u.Lay m) (hn : 0 ≤ n ∧ n ≤ 65535) (sl1 : Sl m Lb.cells 2 l.p l.c l.l) :
    Ct Try.prog 4 #[u.v, l.v, e.v, .int .u16 n] m [] (fun v m' B => v = .bool true ∧ B = []) := by
  have hlv := fun (m' : Mem) (h : m.le m') => begins9 (m := m')
  have hsu := fun (m' : Mem) (h : m.le m') => small17 u (hu.mono h)
  have hsl := fun (m' : Mem) (h : m.le m') => Lb.small l.p l.c l.l (sl1.mono h)
  unfold smU at hsu
  by_cases h0 : u.sm
  rotate_left
  · rw [if_neg h0] at hsu
    refine Ct.enterV (by rfl) Try.func4 rfl Try.ntmps4 rfl (fun w0 Rest => ?_)
    (repeat' (first | refine zss ?_ | refine zsM ?_ | ((with_reducible first | apply AtM1.cr | apply AtQ.cr | apply At.cr); exact rfl; exact rfl; exact fun _ hmm => hlv _ hmm; exact ztk; kernel_rfl) | ((with_reducible first | apply AtM1.cr | apply AtQ.cr | apply At.cr); exact rfl; exact rfl; exact fun _ hmm => hsu _ hmm; exact ztk; kernel_rfl) | ((with_reducible first | apply AtM1.cr | apply AtQ.cr | apply At.cr); exact rfl; exact rfl; exact fun _ hmm => hsl _ hmm; exact ztk; kernel_rfl) | ((with_reducible apply At.box (d := 4)); exact rfl; exact rfl; exact rfl; intro b4) | ((with_reducible apply At.box (d := 6)); exact rfl; exact rfl; exact rfl; intro b6) | ((with_reducible apply At.alloc (d := 9)); exact rfl; exact rfl; intro b9) | ((with_reducible apply At.alloc (d := 12)); exact rfl; exact rfl; intro b12) | ((with_reducible apply At.alloc (d := 19)); exact rfl; exact rfl; intro b19) | (refine zsp ?_ ?_ <;> (intro hc; (try simp only [zhcs, reduceCtorEq] at hc); (try (exfalso; first | (first | omega | exact absurd rfl hc | exact absurd hc (by decide)) | contradiction | omega | exact absurd rfl hc | exact absurd (by decide) hc))))))
    all_goals ((with_reducible apply At.retB1 (B := [])); exact rfl; exact rfl; exact zml; exact zkp; exact ⟨rfl, rfl⟩)
  rw [if_pos h0] at hsu
  by_cases h1 : Lb.few l.l
  rotate_left
  · rw [if_neg h1] at hsl
    refine Ct.enterV (by rfl) Try.func4 rfl Try.ntmps4 rfl (fun w0 Rest => ?_)
    (repeat' (first | refine zss ?_ | refine zsM ?_ | ((with_reducible first | apply AtM1.cr | apply AtQ.cr | apply At.cr); exact rfl; exact rfl; exact fun _ hmm => hlv _ hmm; exact ztk; kernel_rfl) | ((with_reducible first | apply AtM1.cr | apply AtQ.cr | apply At.cr); exact rfl; exact rfl; exact fun _ hmm => hsu _ hmm; exact ztk; kernel_rfl) | ((with_reducible first | apply AtM1.cr | apply AtQ.cr | apply At.cr); exact rfl; exact rfl; exact fun _ hmm => hsl _ hmm; exact ztk; kernel_rfl) | ((with_reducible apply At.box (d := 4)); exact rfl; exact rfl; exact rfl; intro b4) | ((with_reducible apply At.box (d := 6)); exact rfl; exact rfl; exact rfl; intro b6) | ((with_reducible apply At.alloc (d := 9)); exact rfl; exact rfl; intro b9) | ((with_reducible apply At.alloc (d := 12)); exact rfl; exact rfl; intro b12) | ((with_reducible apply At.alloc (d := 19)); exact rfl; exact rfl; intro b19) | (refine zsp ?_ ?_ <;> (intro hc; (try simp only [zhcs, reduceCtorEq] at hc); (try (exfalso; first | (first | omega | exact absurd rfl hc | exact absurd hc (by decide)) | contradiction | omega | exact absurd rfl hc | exact absurd (by decide) hc))))))
    all_goals ((with_reducible apply At.retB1 (B := [])); exact rfl; exact rfl; exact zml; exact zkp; exact ⟨rfl, rfl⟩)
  rw [if_pos h1] at hsl
  have ho := hu.ok h0
  have hmid := h1.mid
  have hlen : l.l.length ≤ 1000000000 := Nat.le_trans h1.1 (by decide)
  have kc := fun (m' : Mem) (h : m.le m') => check u (ho.mono h)
  unfold chk at kc
  by_cases h2 : okU u
  rotate_left
  · rw [if_neg h2] at kc
    refine Ct.enterV (by rfl) Try.func4 rfl Try.ntmps4 rfl (fun w0 Rest => ?_)
    (repeat' (first | refine zss ?_ | refine zsM ?_ | ((with_reducible first | apply AtM1.cr | apply AtQ.cr | apply At.cr); exact rfl; exact rfl; exact fun _ hmm => hlv _ hmm; exact ztk; kernel_rfl) | ((with_reducible first | apply AtM1.cr | apply AtQ.cr | apply At.cr); exact rfl; exact rfl; exact fun _ hmm => hsu _ hmm; exact ztk; kernel_rfl) | ((with_reducible first | apply AtM1.cr | apply AtQ.cr | apply At.cr); exact rfl; exact rfl; exact fun _ hmm => hsl _ hmm; exact ztk; kernel_rfl) | ((with_reducible first | apply AtM1.cr | apply AtQ.cr | apply At.cr); exact rfl; exact rfl; exact fun _ hmm => kc _ hmm; exact ztk; kernel_rfl) | ((with_reducible apply At.box (d := 4)); exact rfl; exact rfl; exact rfl; intro b4) | ((with_reducible apply At.box (d := 6)); exact rfl; exact rfl; exact rfl; intro b6) | ((with_reducible apply At.alloc (d := 9)); exact rfl; exact rfl; intro b9) | ((with_reducible apply At.alloc (d := 12)); exact rfl; exact rfl; intro b12) | ((with_reducible apply At.alloc (d := 19)); exact rfl; exact rfl; intro b19) | (refine zsp ?_ ?_ <;> (intro hc; (try simp only [zhcs, reduceCtorEq] at hc); (try (exfalso; first | (first | omega | exact absurd rfl hc | exact absurd hc (by decide)) | contradiction | omega | exact absurd rfl hc | exact absurd (by decide) hc))))))
    all_goals ((with_reducible apply At.retB1 (B := [])); exact rfl; exact rfl; exact zml; exact zkp; exact ⟨rfl, rfl⟩)
  rw [if_pos h2] at kc
  have sl0 := hu.sl
  have np := ho.np
  have k3 := fun (m' : Mem) (h : m.le m') (i : Nat) (hi : i < u.pl.l.length) => Rd.cast (livesU u (i : Int) (ho.mono h)) rfl (by rw [show livU u (i : Int) = liv u u.pl.l[i]! by unfold livU; rw [decide_eq_true ⟨h2.1, by omega, by omega⟩, Bool.true_and, Int.toNat_natCast]])
  refine Ct.enterV (by rfl) Try.func4 rfl Try.ntmps4 rfl (fun w0 Rest => ?_)
  (repeat' (first | refine zss ?_ | refine zsOM ?_ | ((with_reducible first | apply AtM1.cr | apply AtQ.cr | apply At.cr); exact rfl; exact rfl; exact fun _ hmm => hlv _ hmm; exact ztk; kernel_rfl) | ((with_reducible first | apply AtM1.cr | apply AtQ.cr | apply At.cr); exact rfl; exact rfl; exact fun _ hmm => hsu _ hmm; exact ztk; kernel_rfl) | ((with_reducible first | apply AtM1.cr | apply AtQ.cr | apply At.cr); exact rfl; exact rfl; exact fun _ hmm => hsl _ hmm; exact ztk; kernel_rfl) | ((with_reducible first | apply AtM1.cr | apply AtQ.cr | apply At.cr); exact rfl; exact rfl; exact fun _ hmm => kc _ hmm; exact ztk; kernel_rfl) | ((with_reducible apply At.lit Ser.cells ([] : List Ser)); exact inferInstance; (iterate 7 exact rfl); intro _) | ((with_reducible apply At.apW (f := Ser.cells) (l := ([] : List Ser))); exact rfl; exact rfl; exact (by repeat constructor); exact inferInstance; exact zrdl; (iterate 4 exact rfl); exact zom; exact rfl; intro p2 c2) | ((with_reducible apply At.box (d := 4)); exact rfl; exact rfl; exact rfl; intro b4) | ((with_reducible apply At.box (d := 6)); exact rfl; exact rfl; exact rfl; intro b6) | ((with_reducible apply At.alloc (d := 9)); exact rfl; exact rfl; intro b9) | ((with_reducible apply At.alloc (d := 12)); exact rfl; exact rfl; intro b12) | ((with_reducible apply At.alloc (d := 19)); exact rfl; exact rfl; intro b19) | (refine zsp ?_ ?_ <;> (intro hc; (try simp only [zhcs, reduceCtorEq] at hc); (try (exfalso; first | (first | omega | exact absurd rfl hc | exact absurd hc (by decide)) | contradiction | omega | exact absurd rfl hc | exact absurd (by decide) hc))))))
  rw [List.nil_append]
  have hd0 : ∀ i, i < u.pl.l.length → gon u i = true → dead u.k u.pl.l[i]!.last u.swept = true ∧ 0 ≤ u.swept := fun i hi hg => by
    unfold gon at hg
    rw [Bool.and_eq_true] at hg
    obtain ⟨g1, g2⟩ := liv_not (show liv u u.pl.l[i]! = false by simpa using hg.1) (by simpa using hg.2)
    exact ⟨g2, h2.2.1.2.1.elim (fun h => absurd h g1) (fun h => h.1)⟩
  have kd := fun (i : Nat) => deadF u.k u.pl.l[i]!.last u.swept
  (refine At.loopk (σ := GS) [1, 3, 4, 6, 9, 43, 44] (fun s F0 => (45, .int .i64 (s.i : Int)) :: (10, .bool s.d) :: F0) (fun s => m) (fun s => .own Ser.cells 23 52 p2 c2 s.L :: .blk b9 28 [.int .i64 u.k.r, .int .i64 u.k.a, .int .i64 u.k.b, .int .i64 u.k.d, .int .i64 u.k.x, .int .i64 u.k.y, .int .i64 u.k.w, .int .i64 u.k.c, .int .i64 u.k.g, .int .i64 u.now, .int .i64 u.swept, .slice p2 u.pl.l.length c2] :: .blk b6 32 (Ev.cells e) :: .blk b4 28 u.cells :: Rest) (fun s => s.i ≤ u.pl.l.length ∧ Gn u s.i s.L ∧ s.d = (List.range s.i).any (gon u)) (fun s => u.pl.l.length - s.i) ⟨0, false, u.pl.l⟩ (by rfl) ?_ zsubs zml zente ?_)
  · exact ⟨Nat.zero_le _, Gn.zero u, rfl⟩
  rintro ⟨i, d, L⟩ ⟨hi0, hG, hd⟩
  dsimp only at hi0 hG hd ⊢
  have hLn := hG.len
  by_cases hi : i < u.pl.l.length
  · have k3' := fun (m' : Mem) (h : m.le m') => k3 m' h i hi
    have hst : (List.range (i + 1)).any (gon u) = ((List.range i).any (gon u) || gon u i) := by rw [List.range_succ, List.any_append]; simp
    have hem := lab_emp h2 hi
    cases hl : liv u u.pl.l[i]!
    · rw [hl] at k3'
      by_cases he : emp u.pl.l[i]! = true
      · have hg : gon u i = false := by unfold gon; rw [he]; simp
        have hG2 := hG.keep hg
        rw [hg, Bool.or_false, ← hd] at hst
        have he0 := hem.2 he
        clear hem he hG hg hd0 kd k3 h2 hu ho hlv hsu hsl kc
        (repeat' (first | refine zss ?_ | refine zsOM ?_ | ((with_reducible first | apply AtM1.cr | apply AtQ.cr | apply At.cr); exact rfl; exact rfl; exact fun _ hmm => k3' _ hmm; exact ztk; kernel_rfl) | ((with_reducible apply At.box (d := 4)); exact rfl; exact rfl; exact rfl; intro b4) | ((with_reducible apply At.box (d := 6)); exact rfl; exact rfl; exact rfl; intro b6) | ((with_reducible apply At.alloc (d := 9)); exact rfl; exact rfl; intro b9) | ((with_reducible apply At.alloc (d := 12)); exact rfl; exact rfl; intro b12) | ((with_reducible apply At.alloc (d := 19)); exact rfl; exact rfl; intro b19) | (refine zsp ?_ ?_ <;> (intro hc; (try simp only [zhcs, reduceCtorEq] at hc); (try (exfalso; first | (first | omega | exact absurd rfl hc | exact absurd hc (by decide)) | contradiction | omega | exact absurd rfl hc | exact absurd (by decide) hc))))))
        all_goals ((with_reducible refine At.reachk ((⟨i + 1, d, L⟩ : GS)) ?_ ?_ ?_ ?_); exact zsubs; exact zml; exact zente; exact ⟨⟨hi, hG2, hst.symm⟩, by dsimp only; omega⟩)
      · have hg : gon u i = true := by unfold gon; rw [hl]; simpa using he
        have hG2 := hG.away hi hg
        obtain ⟨q1, q2⟩ := hd0 i hi hg
        have kd' := kd i
        rw [q1] at kd'
        rw [hg, Bool.or_true] at hst
        have he0 : ¬ u.pl.l[i]!.lab.l.length = 0 := fun h => he (hem.1 h)
        clear hem he hG hg hd0 kd k3 h2 hu ho hlv hsu hsl kc q1 hd
        (repeat' (first | refine zss ?_ | refine zsOM ?_ | ((with_reducible first | apply AtM1.cr | apply AtQ.cr | apply At.cr); exact rfl; exact rfl; exact fun _ hmm => k3' _ hmm; exact ztk; kernel_rfl) | ((with_reducible first | apply AtM1.callp | apply AtQ.callp | apply At.callp); kernel_rfl; exact rfl; exact rfl; exact kd') | ((with_reducible apply At.storeW (f := Ser.cells) (x' := Ser.z)); (case hx => exact rfl); (case hy => exact rfl); (case hv => exact rfl); (case hp => exact (by repeat constructor)); (case hr => exact rfl); (case hf => exact inferInstance); (case hk => exact zom); (case hs => exact rfl); (case hq => exact rfl); (case h1 => exact rfl)) | ((with_reducible apply At.box (d := 4)); exact rfl; exact rfl; exact rfl; intro b4) | ((with_reducible apply At.box (d := 6)); exact rfl; exact rfl; exact rfl; intro b6) | ((with_reducible apply At.alloc (d := 9)); exact rfl; exact rfl; intro b9) | ((with_reducible apply At.alloc (d := 12)); exact rfl; exact rfl; intro b12) | ((with_reducible apply At.alloc (d := 19)); exact rfl; exact rfl; intro b19) | (refine zsp ?_ ?_ <;> (intro hc; (try simp only [zhcs, reduceCtorEq] at hc); (try (exfalso; first | (first | omega | exact absurd rfl hc | exact absurd hc (by decide)) | contradiction | omega | exact absurd rfl hc | exact absurd (by decide) hc))))))
        all_goals ((with_reducible refine At.reachk ((⟨i + 1, true, L.set i Ser.z⟩ : GS)) ?_ ?_ ?_ ?_); exact zsubs; exact zml; exact zente; exact ⟨⟨hi, hG2, hst.symm⟩, by dsimp only; omega⟩)
    · rw [hl] at k3'
      have hg : gon u i = false := by unfold gon; rw [hl]; simp
      have hG2 := hG.keep hg
      rw [hg, Bool.or_false, ← hd] at hst
      clear hem hG hg hd0 kd k3 h2 hu ho hlv hsu hsl kc
      (repeat' (first | refine zss ?_ | refine zsOM ?_ | ((with_reducible first | apply AtM1.cr | apply AtQ.cr | apply At.cr); exact rfl; exact rfl; exact fun _ hmm => k3' _ hmm; exact ztk; kernel_rfl) | ((with_reducible apply At.box (d := 4)); exact rfl; exact rfl; exact rfl; intro b4) | ((with_reducible apply At.box (d := 6)); exact rfl; exact rfl; exact rfl; intro b6) | ((with_reducible apply At.alloc (d := 9)); exact rfl; exact rfl; intro b9) | ((with_reducible apply At.alloc (d := 12)); exact rfl; exact rfl; intro b12) | ((with_reducible apply At.alloc (d := 19)); exact rfl; exact rfl; intro b19) | (refine zsp ?_ ?_ <;> (intro hc; (try simp only [zhcs, reduceCtorEq] at hc); (try (exfalso; first | (first | omega | exact absurd rfl hc | exact absurd hc (by decide)) | contradiction | omega | exact absurd rfl hc | exact absurd (by decide) hc))))))
      all_goals ((with_reducible refine At.reachk ((⟨i + 1, d, L⟩ : GS)) ?_ ?_ ?_ ?_); exact zsubs; exact zml; exact zente; exact ⟨⟨hi, hG2, hst.symm⟩, by dsimp only; omega⟩)
  have ei : i = u.pl.l.length := by omega
  subst ei
  (refine At.own_freeze inferInstance (by repeat constructor) fun m' hm' sl2 => ?_; (try replace sl0 := sl0.mono hm'); (try replace sl1 := sl1.mono hm'))
  have oT := hG.lay (ho.mono hm') sl2
  have aw := hG.to p2 c2
  have k8 := fun (m2 : Mem) h => where_ (m := m2) u l e ((ho.mono hm').mono h) hlen hmid (sl1.mono h)
  have k9 := fun (m2 : Mem) h => Rd.cast (where_ (m := m2) _ l e (oT.mono h) hlen hmid (sl1.mono h)) (by rw [withP_v hLn]) (by rw [aw.whr h2])
  have kt := fun (m2 : Mem) h => Rd.cast (check (m := m2) _ (oT.mono h)) (by rw [withP_v hLn]) (by rw [show chk _ = 0 from if_pos (aw.ok h2)])
  have km := fun (m2 : Mem) (h : _) => manyU (m := m2) u ((ho.mono hm').mono h)
  have km2 := fun (m2 : Mem) h => Rd.cast (manyU (m := m2) _ (oT.mono h)) (by rw [withP_v hLn]) (by rw [aw.many h2])
  obtain ⟨t, ht⟩ : ∃ t, t = u.now + n := ⟨_, rfl⟩
  have hnow : 0 ≤ u.now ∧ u.now < 35184372088832 := h2.2.1.1
  have hlate : t < 35184372088832 → okU (late u t) ∧ many (late u t) ≤ many u := fun h => ⟨late_ok h2 (by omega) h, late_many h2 (by omega) h⟩
  have hll : ∀ i : Nat, t < 35184372088832 → liv u u.pl.l[i]! = false → liv (late u t) u.pl.l[i]! = false := fun i h g => by
    cases hc : liv (late u t) u.pl.l[i]!
    · rfl
    · rw [late_liv h2 (by omega) h hc] at g; cases g
  have oL : t < 35184372088832 → (late u t).Ok _ := fun h => ⟨ho.sl.mono hm', fun x hx => (ho.pk x hx).mono hm', ho.np, ⟨by show _ ≤ t; omega, by show t ≤ _; omega⟩, ⟨by show _ ≤ t; omega, by show t ≤ _; omega⟩⟩
  have hw := h2.1
  generalize whr u l.l e = w at k8 k9
  clear hd kd hd0 hG oT aw hlv hsu hsl kc hu h0 h1 hmid hlen
  by_cases hlt : t < 35184372088832
  rotate_left
  · subst ht
    clear hlate hll oL k3
    (repeat' (first | refine zss ?_ | refine zsM ?_ | ((with_reducible first | apply AtM1.cr | apply AtQ.cr | apply At.cr); exact rfl; exact rfl; exact fun _ hmm => k8 _ zml; exact ztk; kernel_rfl) | ((with_reducible first | apply AtM1.cr | apply AtQ.cr | apply At.cr); exact rfl; exact rfl; exact fun _ hmm => k9 _ zml; exact ztk; kernel_rfl) | ((with_reducible first | apply AtM1.cr | apply AtQ.cr | apply At.cr); exact rfl; exact rfl; exact fun _ hmm => kt _ zml; exact ztk; kernel_rfl) | ((with_reducible first | apply AtM1.cr | apply AtQ.cr | apply At.cr); exact rfl; exact rfl; exact fun _ hmm => km _ zml; exact ztk; kernel_rfl) | ((with_reducible first | apply AtM1.cr | apply AtQ.cr | apply At.cr); exact rfl; exact rfl; exact fun _ hmm => km2 _ zml; exact ztk; kernel_rfl) | ((with_reducible apply At.box (d := 4)); exact rfl; exact rfl; exact rfl; intro b4) | ((with_reducible apply At.box (d := 6)); exact rfl; exact rfl; exact rfl; intro b6) | ((with_reducible apply At.alloc (d := 9)); exact rfl; exact rfl; intro b9) | ((with_reducible apply At.alloc (d := 12)); exact rfl; exact rfl; intro b12) | ((with_reducible apply At.alloc (d := 19)); exact rfl; exact rfl; intro b19) | (refine zsp ?_ ?_ <;> (intro hc; (try simp only [zhcs, reduceCtorEq] at hc); (try (exfalso; first | (first | omega | exact absurd rfl hc | exact absurd hc (by decide) | exact hc rfl) | contradiction | omega | exact absurd rfl hc | exact absurd (by decide) hc))))))
    all_goals ((with_reducible apply At.retB1 (B := [])); exact rfl; exact rfl; exact zml; exact zkp; exact ⟨rfl, rfl⟩)
  cases d
  · subst ht
    clear hlate hll oL k3
    (repeat' (first | refine zss ?_ | refine zsM ?_ | ((with_reducible first | apply AtM1.cr | apply AtQ.cr | apply At.cr); exact rfl; exact rfl; exact fun _ hmm => k8 _ zml; exact ztk; kernel_rfl) | ((with_reducible first | apply AtM1.cr | apply AtQ.cr | apply At.cr); exact rfl; exact rfl; exact fun _ hmm => k9 _ zml; exact ztk; kernel_rfl) | ((with_reducible first | apply AtM1.cr | apply AtQ.cr | apply At.cr); exact rfl; exact rfl; exact fun _ hmm => kt _ zml; exact ztk; kernel_rfl) | ((with_reducible first | apply AtM1.cr | apply AtQ.cr | apply At.cr); exact rfl; exact rfl; exact fun _ hmm => km _ zml; exact ztk; kernel_rfl) | ((with_reducible first | apply AtM1.cr | apply AtQ.cr | apply At.cr); exact rfl; exact rfl; exact fun _ hmm => km2 _ zml; exact ztk; kernel_rfl) | ((with_reducible apply At.box (d := 4)); exact rfl; exact rfl; exact rfl; intro b4) | ((with_reducible apply At.box (d := 6)); exact rfl; exact rfl; exact rfl; intro b6) | ((with_reducible apply At.alloc (d := 9)); exact rfl; exact rfl; intro b9) | ((with_reducible apply At.alloc (d := 12)); exact rfl; exact rfl; intro b12) | ((with_reducible apply At.alloc (d := 19)); exact rfl; exact rfl; intro b19) | (refine zsp ?_ ?_ <;> (intro hc; (try simp only [zhcs, reduceCtorEq] at hc); (try (exfalso; first | (first | omega | exact absurd rfl hc | exact absurd hc (by decide) | exact hc rfl) | contradiction | omega | exact absurd rfl hc | exact absurd (by decide) hc))))))
    all_goals ((with_reducible apply At.retB1 (B := [])); exact rfl; exact rfl; exact zml; exact zkp; exact ⟨rfl, rfl⟩)
  · have fadd : IntKind.wrap .i64 (u.now + n) = t := by rw [IntKind.wrap_i64]; omega
    obtain ⟨hl1, hl2⟩ := hlate hlt
    have hoL := oL hlt
    have kl := fun (m2 : Mem) h => Rd.cast (check (m := m2) (late u t) (hoL.mono h)) rfl (by rw [show chk _ = 0 from if_pos hl1])
    have kml := fun (m2 : Mem) h => manyU (m := m2) (late u t) (hoL.mono h)
    have k4 := fun (m2 : Mem) h (i : Nat) (hi : i < u.pl.l.length) => Rd.cast (livesU (m := m2) (late u t) (i : Int) (hoL.mono h)) rfl (by rw [show livU (late u t) (i : Int) = liv (late u t) u.pl.l[i]! by unfold livU; rw [decide_eq_true ⟨hl1.1, by omega, by show _ < ((u.pl.l.length : Nat) : Int); omega⟩, Bool.true_and, Int.toNat_natCast]])
    generalize many (late u t) = ml at kml hl2
    generalize many u = mu at km km2 hl2
    clear hlate oL hl1 hw h2
    (repeat' (first | refine zss ?_ | ((first | (with_reducible first | apply At.val | apply AtQ.val)); (exact pr_add (by rfl) (by rfl) fadd); exact rfl) | refine zsM ?_ | ((with_reducible first | apply AtM1.cr | apply AtQ.cr | apply At.cr); exact rfl; exact rfl; exact fun _ hmm => k8 _ zml; exact ztk; kernel_rfl) | ((with_reducible first | apply AtM1.cr | apply AtQ.cr | apply At.cr); exact rfl; exact rfl; exact fun _ hmm => k9 _ zml; exact ztk; kernel_rfl) | ((with_reducible first | apply AtM1.cr | apply AtQ.cr | apply At.cr); exact rfl; exact rfl; exact fun _ hmm => kt _ zml; exact ztk; kernel_rfl) | ((with_reducible first | apply AtM1.cr | apply AtQ.cr | apply At.cr); exact rfl; exact rfl; exact fun _ hmm => km _ zml; exact ztk; kernel_rfl) | ((with_reducible first | apply AtM1.cr | apply AtQ.cr | apply At.cr); exact rfl; exact rfl; exact fun _ hmm => km2 _ zml; exact ztk; kernel_rfl) | ((with_reducible apply At.box (d := 4)); exact rfl; exact rfl; exact rfl; intro b4) | ((with_reducible apply At.box (d := 6)); exact rfl; exact rfl; exact rfl; intro b6) | ((with_reducible apply At.alloc (d := 9)); exact rfl; exact rfl; intro b9) | ((with_reducible apply At.alloc (d := 12)); exact rfl; exact rfl; intro b12) | ((with_reducible apply At.alloc (d := 19)); exact rfl; exact rfl; intro b19) | (refine zsp ?_ ?_ <;> (intro hc; (try simp only [zhcs, reduceCtorEq] at hc); (try (exfalso; first | (first | omega | exact absurd rfl hc | exact absurd hc (by decide) | exact hc rfl) | contradiction | omega | exact absurd rfl hc | exact absurd (by decide) hc))))))
    clear k8 k9 kt km2
    (refine At.loopk (σ := Nat) [4, 19, 138] (fun s F0 => (139, .int .i64 (s : Int)) :: F0) (fun s => m') (fun s => .blk b19 28 (late u t).cells :: .blk b4 28 u.cells :: Rest) (fun s => s ≤ u.pl.l.length) (fun s => u.pl.l.length - s) 0 (by rfl) ?_ zsubs zml zente ?_)
    · exact Nat.zero_le _
    intro i hi0
    by_cases hi : i < u.pl.l.length
    · have k3' := fun (m2 : Mem) (h : m'.le m2) => k3 m2 (Mem.le_trans hm' h) i hi
      have k4' := fun (m2 : Mem) (h : m'.le m2) => k4 m2 h i hi
      have hll' := hll i hlt
      generalize liv u u.pl.l[i]! = a at k3' hll'
      generalize liv (late u t) u.pl.l[i]! = b at k4' hll'
      clear k3 k4 hll kl kml km ho hoL
      cases a
      · rw [hll' rfl] at k4'
        (repeat' (first | refine zss ?_ | refine zsM ?_ | ((with_reducible first | apply AtM1.cr | apply AtQ.cr | apply At.cr); exact rfl; exact rfl; exact fun _ hmm => k3' _ hmm; exact ztk; kernel_rfl) | ((with_reducible first | apply AtM1.cr | apply AtQ.cr | apply At.cr); exact rfl; exact rfl; exact fun _ hmm => k4' _ hmm; exact ztk; kernel_rfl) | ((with_reducible apply At.box (d := 4)); exact rfl; exact rfl; exact rfl; intro b4) | ((with_reducible apply At.box (d := 6)); exact rfl; exact rfl; exact rfl; intro b6) | ((with_reducible apply At.alloc (d := 9)); exact rfl; exact rfl; intro b9) | ((with_reducible apply At.alloc (d := 12)); exact rfl; exact rfl; intro b12) | ((with_reducible apply At.alloc (d := 19)); exact rfl; exact rfl; intro b19) | (refine zsp ?_ ?_ <;> (intro hc; (try simp only [zhcs, reduceCtorEq] at hc); (try (exfalso; first | (first | omega | exact absurd rfl hc | exact absurd hc (by decide)) | contradiction | omega | exact absurd rfl hc | exact absurd (by decide) hc))))))
        all_goals ((with_reducible refine At.reachk ((i + 1)) ?_ ?_ ?_ ?_); exact zsubs; exact zml; exact zente; exact ⟨hi, by omega⟩)
      · (repeat' (first | refine zss ?_ | refine zsM ?_ | ((with_reducible first | apply AtM1.cr | apply AtQ.cr | apply At.cr); exact rfl; exact rfl; exact fun _ hmm => k3' _ hmm; exact ztk; kernel_rfl) | ((with_reducible first | apply AtM1.cr | apply AtQ.cr | apply At.cr); exact rfl; exact rfl; exact fun _ hmm => k4' _ hmm; exact ztk; kernel_rfl) | ((with_reducible apply At.box (d := 4)); exact rfl; exact rfl; exact rfl; intro b4) | ((with_reducible apply At.box (d := 6)); exact rfl; exact rfl; exact rfl; intro b6) | ((with_reducible apply At.alloc (d := 9)); exact rfl; exact rfl; intro b9) | ((with_reducible apply At.alloc (d := 12)); exact rfl; exact rfl; intro b12) | ((with_reducible apply At.alloc (d := 19)); exact rfl; exact rfl; intro b19) | (refine zsp ?_ ?_ <;> (intro hc; (try simp only [zhcs, reduceCtorEq] at hc); (try (exfalso; first | (first | omega | exact absurd rfl hc | exact absurd hc (by decide)) | contradiction | omega | exact absurd rfl hc | exact absurd (by decide) hc))))))
        all_goals ((with_reducible refine At.reachk ((i + 1)) ?_ ?_ ?_ ?_); exact zsubs; exact zml; exact zente; exact ⟨hi, by omega⟩)
    · clear k3 k4 hll ho hoL
      (repeat' (first | refine zss ?_ | refine zsM ?_ | ((with_reducible first | apply AtM1.cr | apply AtQ.cr | apply At.cr); exact rfl; exact rfl; exact fun _ hmm => km _ hmm; exact ztk; kernel_rfl) | ((with_reducible first | apply AtM1.cr | apply AtQ.cr | apply At.cr); exact rfl; exact rfl; exact fun _ hmm => kl _ hmm; exact ztk; kernel_rfl) | ((with_reducible first | apply AtM1.cr | apply AtQ.cr | apply At.cr); exact rfl; exact rfl; exact fun _ hmm => kml _ hmm; exact ztk; kernel_rfl) | ((with_reducible apply At.box (d := 4)); exact rfl; exact rfl; exact rfl; intro b4) | ((with_reducible apply At.box (d := 6)); exact rfl; exact rfl; exact rfl; intro b6) | ((with_reducible apply At.alloc (d := 9)); exact rfl; exact rfl; intro b9) | ((with_reducible apply At.alloc (d := 12)); exact rfl; exact rfl; intro b12) | ((with_reducible apply At.alloc (d := 19)); exact rfl; exact rfl; intro b19) | (refine zsp ?_ ?_ <;> (intro hc; (try simp only [zhcs, reduceCtorEq] at hc); (try (exfalso; first | (first | omega | exact absurd rfl hc | exact absurd hc (by decide)) | contradiction | omega | exact absurd rfl hc | exact absurd (by decide) hc))))))
      all_goals ((with_reducible apply At.retB1 (B := [])); exact rfl; exact rfl; exact zml; exact zkp; exact ⟨congrArg Value.bool (decide_eq_true (by omega)), rfl⟩)
end Ru
namespace TopGoneL
open Go.ChangeShapes Go.WideShapes Go.ChangeAt Go.RowKit
open Go.ChangeMaps (open_string shut_string)
theorem own : ownKnob Try.prog.godebug = none := by kernel_rfl
theorem laidOut : laidOutB Try.prog = true := by kernel_rfl
set_option maxRecDepth 100000 in
theorem lifted (os : Os) (started : os.Started) (H : Type) (enc : TypeId × Value → H) :
    ReturnsInHanded {} Try.checked os 4 .any (Rows.topGoneSpec.pre6 enc Try.prog Try.f4 Rows.topGoneRow.domain false) (Rows.topGoneSpec.post enc Try.prog Try.f4 false true false false) := by
  refine returnsInHanded_of_change (C := Try.checked) own started (by kernel_rfl) Try.func4
    (ChangeSpec.witness6 (enc := enc) (C := Try.checked) false ⟨#[], #[.agg #[.int .i64 0, .int .i64 0, .int .i64 0, .int .i64 0, .int .i64 0, .int .i64 0, .int .i64 0, .int .i64 0, .int .i64 0, .int .i64 0, .int .i64 0, .slice none 0 0], .slice none 0 0, .agg #[.int .i64 0, .int .u64 0, .int .i64 0, .bool false], .int .u16 0], []⟩ 8 (by kernel_rfl) (by kernel_rfl) (by kernel_rfl) (by kernel_rfl)) ?_
  intro W base args ds gs before hval0 hW hcnd _
  have hval : ∀ (j : Nat) t v, Try.f4.params[j]? = some t → args[j]? = some v → Value.okWide Try.prog W .any base t v := hval0
  have hW' := hW
  obtain ⟨p, q, hA0, hV, rfl, hfz, hnd⟩ := hW
  have hA : DataW.TrodAll enc Try.prog W 0 (fun _ => true) true Try.f4.params.toList args.toList ds p := hA0
  rw [Try.params4] at hA hval
  obtain ⟨rfl, rfl⟩ := trodVars_none hV
  have hlt : ∀ x ∈ p, x.block < W.heap.size := fun x hx => hW'.lt x (by simpa using hx)
  have hback := fun (W' : World) (bel : Below W.heap.size W W') => trodAll_below laidOut bel _ _ _ _ (by kernel_rfl) hA hlt
  obtain ⟨v0, vs0, d0, ds0, p0, q0, hargs, rfl, rfl, h0, r0⟩ := trodAll_cons hA
  obtain ⟨v1, vs1, d1, ds1, p1, q1, rfl, rfl, rfl, h1, r1⟩ := trodAll_cons r0
  obtain ⟨v2, vs2, d2, ds2, p2, q2, rfl, rfl, rfl, h2, r2⟩ := trodAll_cons r1
  obtain ⟨v3, vs3, d3, ds3, p3, q3, rfl, rfl, rfl, h3, r3⟩ := trodAll_cons r2
  obtain ⟨rfl, rfl, rfl⟩ := trodAll_nil r3
  obtain rfl : args = #[v0, v1, v2, v3] := by cases args; simp_all
  obtain ⟨a0, rfl, w0⟩ := open_flat_arg (f := Sta.cells) (φ := Sta.Lay (memOf W)) [.int .i64, .int .i64, .int .i64, .int .i64, .int .i64, .int .i64, .int .i64, .int .i64, .int .i64, .int .i64, .int .i64, .sl 26] Try.underlying28 (by kernel_rfl) St.dec_sta (hval 0 28 v0 rfl rfl) h0
  obtain ⟨p1, c1, a1, rfl, s1, w1⟩ := open_sl_arg (f := Lb.cells) (sz := 2) inferInstance (fun _ => True) Try.underlying29 (by rfl) (dec_flat' [.str, .str] (by kernel_rfl) St.dec_lab) (okWide_slice Try.underlying29 (hval 1 29 v1 rfl rfl)) h1
  obtain ⟨a2, rfl, w2⟩ := open_flat_arg (f := Ev.cells) (φ := Ev.In) [.int .i64, .int .u64, .int .i64, .bool] Try.underlying32 (by kernel_rfl) Ev.dec_ev (hval 2 32 v2 rfl rfl) h2
  obtain ⟨a3, rfl, rfl, rfl, w3⟩ := open_int Try.underlying56 (hval 3 56 v3 rfl rfl) h3
  refine (law_calls (Ct.mono (Ru.goneL (m := memOf W) a0 ⟨p1, c1, a1⟩ a2 a3 w0 (bounds_u16 w3) s1) fun v m' B _ h => h.1)).mono fun e W' ⟨he, bel⟩ => ?_
  subst he
  exact ⟨_, rfl, _, _, _, [], _, [], hW', trodAll_mk1 (shut_bool Try.underlying4 _), hback W' bel, rfl, bel.frame _, fun h => by cases h⟩
theorem over : Rows.topGoneRow.holds Try.pinned (OpenSpec.ofChange Rows.topGoneSpec) :=
  OpenClaim.holds_of_wide 4 Try.f4 rfl rfl rfl rfl rfl rfl rfl ⟨rfl, rfl, rfl, rfl, rfl⟩ rfl rfl rfl rfl rfl (by kernel_rfl) Try.func4 (by kernel_rfl)
    (of_decide_eq_true (by kernel_rfl)) (by unfold Func.isWrapper; first | (rw [if_pos (by decide +kernel)]; kernel_rfl) | (rw [if_neg (by decide +kernel)]; exact ⟨rfl, rfl⟩))
    (fun os started H enc _ => lifted os started H enc)
theorem proved : Rows.TopGoneSaid := over
end TopGoneL
end Go.Proofs.Ytmjoncbnlaoggaa
