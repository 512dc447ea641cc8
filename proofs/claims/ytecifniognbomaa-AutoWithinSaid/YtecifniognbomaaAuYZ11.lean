/- AutoWithin: what lies within can be asked of that tier, and so can what lies around; one window more to either side lies beyond the range, or is not kept; what can be asked is within and around itself. No condition. -/
import Derived.Test.YtecifniognbomaaAuYZ10
/- AutoWithin: what lies within can be asked of that tier, and so can what lies around; one window more to either side lies beyond the range, or is not kept; what can be asked is within and around itself. No condition. -/
set_option linter.unusedSimpArgs false
set_option linter.unusedVariables false
set_option linter.unusedSectionVars false
set_option maxRecDepth 20000
set_option maxHeartbeats 4000000
namespace Go.Proofs.Ytecifniognbomaa
open Go Go.J
attribute [local irreducible] At AtQ AtM AtM1 PR Ct Pu Rd Res.blk Res.own Res.ex RVs RV
namespace Au
open Se Win St
set_option maxRecDepth 100000 in
theorem withinL {m : Mem} (u : Sta) (t f g : Int) (hu : u.Lay m) :
    Ct Try.prog 3 #[u.v, .int .i64 t, .int .i64 f, .int .i64 g] m [] (fun v m' B => v = .bool true ∧ B = []) := by
  have hlv := fun (m' : Mem) (h : m.le m') => auto_lives (m := m')
  have hsu := fun (m' : Mem) (h : m.le m') => small17 u (hu.mono h)
  unfold smU at hsu
  by_cases h0 : u.sm
  rotate_left
  · rw [if_neg h0] at hsu
    refine Ct.enterV (by rfl) Try.func3 rfl Try.ntmps3 rfl (fun w0 Rest => ?_)
    (repeat' (first | refine zss ?_ | refine zsM ?_ | ((with_reducible first | apply AtM1.cr | apply AtQ.cr | apply At.cr); exact rfl; exact rfl; exact fun _ hmm => hlv _ hmm; exact ztk; kernel_rfl) | ((with_reducible first | apply AtM1.cr | apply AtQ.cr | apply At.cr); exact rfl; exact rfl; exact fun _ hmm => hsu _ hmm; exact ztk; kernel_rfl) | ((with_reducible apply At.box (d := 4)); exact rfl; exact rfl; exact rfl; intro b4) | (refine zsp ?_ ?_ <;> (intro hc; (try simp only [zhcs, reduceCtorEq] at hc); (try (exfalso; first | (first | omega | exact absurd rfl hc | exact absurd hc (by decide)) | contradiction | omega | exact absurd rfl hc | exact absurd (by decide) hc))))))
    all_goals ((with_reducible apply At.retB1 (B := [])); exact rfl; exact rfl; exact zml; exact zkp; exact ⟨rfl, rfl⟩)
  rw [if_pos h0] at hsu
  have ho := hu.ok h0
  have kc := fun (m' : Mem) (h : m.le m') => check u (ho.mono h)
  unfold chk at kc
  by_cases h2 : okU u
  rotate_left
  · rw [if_neg h2] at kc
    refine Ct.enterV (by rfl) Try.func3 rfl Try.ntmps3 rfl (fun w0 Rest => ?_)
    (repeat' (first | refine zss ?_ | refine zsM ?_ | ((with_reducible first | apply AtM1.cr | apply AtQ.cr | apply At.cr); exact rfl; exact rfl; exact fun _ hmm => hlv _ hmm; exact ztk; kernel_rfl) | ((with_reducible first | apply AtM1.cr | apply AtQ.cr | apply At.cr); exact rfl; exact rfl; exact fun _ hmm => hsu _ hmm; exact ztk; kernel_rfl) | ((with_reducible first | apply AtM1.cr | apply AtQ.cr | apply At.cr); exact rfl; exact rfl; exact fun _ hmm => kc _ hmm; exact ztk; kernel_rfl) | ((with_reducible apply At.box (d := 4)); exact rfl; exact rfl; exact rfl; intro b4) | (refine zsp ?_ ?_ <;> (intro hc; (try simp only [zhcs, reduceCtorEq] at hc); (try (exfalso; first | (first | omega | exact absurd rfl hc | exact absurd hc (by decide)) | contradiction | omega | exact absurd rfl hc | exact absurd (by decide) hc))))))
    all_goals ((with_reducible apply At.retB1 (B := [])); exact rfl; exact rfl; exact zml; exact zkp; exact ⟨rfl, rfl⟩)
  rw [if_pos h2] at kc
  by_cases h13 : 1 ≤ t ∧ t ≤ 3
  rotate_left
  · clear hu ho h0 h2
    refine Ct.enterV (by rfl) Try.func3 rfl Try.ntmps3 rfl (fun w0 Rest => ?_)
    (repeat' (first | refine zss ?_ | refine zsM ?_ | ((with_reducible first | apply AtM1.cr | apply AtQ.cr | apply At.cr); exact rfl; exact rfl; exact fun _ hmm => hlv _ hmm; exact ztk; kernel_rfl) | ((with_reducible first | apply AtM1.cr | apply AtQ.cr | apply At.cr); exact rfl; exact rfl; exact fun _ hmm => hsu _ hmm; exact ztk; kernel_rfl) | ((with_reducible first | apply AtM1.cr | apply AtQ.cr | apply At.cr); exact rfl; exact rfl; exact fun _ hmm => kc _ hmm; exact ztk; kernel_rfl) | ((with_reducible apply At.box (d := 4)); exact rfl; exact rfl; exact rfl; intro b4) | (refine zsp ?_ ?_ <;> (intro hc; (try simp only [zhcs, reduceCtorEq] at hc); (try (exfalso; first | (first | omega | exact absurd rfl hc | exact absurd hc (by decide)) | contradiction | omega | exact absurd rfl hc | exact absurd (by decide) hc))))))
    all_goals ((with_reducible apply At.retB1 (B := [])); exact rfl; exact rfl; exact zml; exact zkp; exact ⟨rfl, rfl⟩)
  have h3 := t3 (c := u.k) h13.1 h13.2
  have k1 := fun (m' : Mem) (h : m.le m') => inner u t f g (ho.mono h)
  have k3 := fun (m' : Mem) (h : m.le m') => outer u t f g (ho.mono h)
  have kt := fun (m' : Mem) (h : m.le m') a b => tier u t _ _ a b (ho.mono h) h2 h3
  obtain ⟨hw, hn⟩ := h3.bd h2.1.1
  have hob := old_bd (w := wT u.k t) (n := nT u.k t) h2.2.1.1 hw hn
  unfold inn at k1
  unfold out at k3
  generalize oldV u.now (wT u.k t) (nT u.k t) = o at k1 k3 kt hob
  generalize u.now / wT u.k t = nw at hob
  generalize nT u.k t = n at h3 hn
  generalize wT u.k t = w at k1 k3 kt hob h3 hw hn
  by_cases hm : mayE u t f g = 0
  rotate_left
  · rw [if_neg hm] at k1 k3
    have hne : oneE w o f g ≠ 0 := fun hq => hm (by
      obtain ⟨-, -, -, p1, p2, p3⟩ := span0 (one0 hq).1
      unfold mayE
      rw [if_neg (not_not_intro h2), if_neg (by omega)])
    generalize mayE u t f g = e at k1 k3 hm
    dsimp only [v3] at k1 k3
    exact within5 u t f g w o 0 0 0 0 e e ⟨hlv, hsu, kc, k1, k3, kt, hw, n, h3⟩ hm hm hne
  rw [if_pos hm] at k1 k3
  obtain ⟨-, -, hf⟩ := may0 hm
  have H1 := fun h => within_in (t := t) hw hob.1 hf h
  have H2 := fun h => within_out (t := t) (o := o) hw hf h
  have H3 := fun (h : oneE w o f g = 0) => within_eq hw h
  generalize innW w o f g = A at k1 H1 H3
  generalize outW w o f g = B at k3 H2 H3
  obtain ⟨a, b, e1⟩ := A
  obtain ⟨c, d, e2⟩ := B
  dsimp only [v3] at k1 k3
  dsimp only at H1 H2
  have H1' : e1 = 0 → oneE w o a b = 0 ∧ tierV t w o a b = t ∧ f ≤ a ∧ b ≤ g ∧ g - b < w ∧ (w ≤ a - f → oneE w o (a - w) b ≠ 0) ∧ 0 ≤ a ∧ a < b := fun h => ⟨(H1 h).one, (H1 h).tv, (H1 h).lo, (H1 h).hi, (H1 h).near, (H1 h).bef, (H1 h).b0⟩
  have H2' : e2 = 0 → oneE w o c d = 0 ∧ tierV t w o c d = t ∧ c ≤ f ∧ g ≤ d ∧ f - c < w ∧ d - g < w ∧ 0 ≤ c ∧ d ≤ 35184372088832 := fun h => ⟨(H2 h).one, (H2 h).tv, (H2 h).lo, (H2 h).hi, (H2 h).nearA, (H2 h).nearB, (H2 h).b0⟩
  by_cases g4 : oneE w o f g = 0
  · have q := H3 g4
    simp only [Prod.mk.injEq] at q
    obtain ⟨⟨q1, q2, q3⟩, q4, q5, q6⟩ := q
    subst q3 q6
    exact within1 u t f g w o a b c d ⟨hlv, hsu, kc, k1, k3, kt, hw, n, h3⟩ (H1' rfl) (H2' rfl) ⟨q1, q2, q4, q5⟩ g4 hf
  by_cases g1 : e1 = 0
  · subst g1
    by_cases g2 : e2 = 0
    · subst g2
      exact within2 u t f g w o a b c d ⟨hlv, hsu, kc, k1, k3, kt, hw, n, h3⟩ (H1' rfl) (H2' rfl) g4 hf
    · exact within3 u t f g w o a b c d e2 ⟨hlv, hsu, kc, k1, k3, kt, hw, n, h3⟩ (H1' rfl) g2 g4 hf
  · by_cases g2 : e2 = 0
    · subst g2
      exact within4 u t f g w o a b c d e1 ⟨hlv, hsu, kc, k1, k3, kt, hw, n, h3⟩ g1 (H2' rfl) g4 hf
    · exact within5 u t f g w o a b c d e1 e2 ⟨hlv, hsu, kc, k1, k3, kt, hw, n, h3⟩ g1 g2 g4
end Au
namespace AutoWithinL
open Go.ChangeShapes Go.WideShapes Go.ChangeAt Go.RowKit
open Go.ChangeMaps (open_string shut_string)
theorem own : ownKnob Try.prog.godebug = none := by kernel_rfl
theorem laidOut : laidOutB Try.prog = true := by kernel_rfl
set_option maxRecDepth 100000 in
theorem lifted (os : Os) (started : os.Started) (H : Type) (enc : TypeId × Value → H) :
    ReturnsInHanded {} Try.checked os 3 .any (Rows.autoWithinSpec.pre6 enc Try.prog Try.f3 Rows.autoWithinRow.domain false) (Rows.autoWithinSpec.post enc Try.prog Try.f3 false true false false) := by
  refine returnsInHanded_of_change (C := Try.checked) own started (by kernel_rfl) Try.func3
    (ChangeSpec.witness6 (enc := enc) (C := Try.checked) false ⟨#[], #[.agg #[.int .i64 0, .int .i64 0, .int .i64 0, .int .i64 0, .int .i64 0, .int .i64 0, .int .i64 0, .int .i64 0, .int .i64 0, .int .i64 0, .int .i64 0, .slice none 0 0], .int .i64 0, .int .i64 0, .int .i64 0], []⟩ 8 (by kernel_rfl) (by kernel_rfl) (by kernel_rfl) (by kernel_rfl)) ?_
  intro W base args ds gs before hval0 hW hcnd _
  have hval : ∀ (j : Nat) t v, Try.f3.params[j]? = some t → args[j]? = some v → Value.okWide Try.prog W .any base t v := hval0
  have hW' := hW
  obtain ⟨p, q, hA0, hV, rfl, hfz, hnd⟩ := hW
  have hA : DataW.TrodAll enc Try.prog W 0 (fun _ => true) true Try.f3.params.toList args.toList ds p := hA0
  rw [Try.params3] at hA hval
  obtain ⟨rfl, rfl⟩ := trodVars_none hV
  have hlt : ∀ x ∈ p, x.block < W.heap.size := fun x hx => hW'.lt x (by simpa using hx)
  have hback := fun (W' : World) (bel : Below W.heap.size W W') => trodAll_below laidOut bel _ _ _ _ (by kernel_rfl) hA hlt
  obtain ⟨v0, vs0, d0, ds0, p0, q0, hargs, rfl, rfl, h0, r0⟩ := trodAll_cons hA
  obtain ⟨v1, vs1, d1, ds1, p1, q1, rfl, rfl, rfl, h1, r1⟩ := trodAll_cons r0
  obtain ⟨v2, vs2, d2, ds2, p2, q2, rfl, rfl, rfl, h2, r2⟩ := trodAll_cons r1
  obtain ⟨v3, vs3, d3, ds3, p3, q3, rfl, rfl, rfl, h3, r3⟩ := trodAll_cons r2
  obtain ⟨rfl, rfl, rfl⟩ := trodAll_nil r3
  obtain rfl : args = #[v0, v1, v2, v3] := by cases args; simp_all
  obtain ⟨a0, rfl, w0⟩ := open_flat_arg (f := Sta.cells) (φ := Sta.Lay (memOf W)) [.int .i64, .int .i64, .int .i64, .int .i64, .int .i64, .int .i64, .int .i64, .int .i64, .int .i64, .int .i64, .int .i64, .sl 26] Try.underlying28 (by kernel_rfl) St.dec_sta (hval 0 28 v0 rfl rfl) h0
  obtain ⟨a1, rfl, rfl, rfl, w1⟩ := open_int Try.underlying3 (hval 1 3 v1 rfl rfl) h1
  obtain ⟨a2, rfl, rfl, rfl, w2⟩ := open_int Try.underlying2 (hval 2 2 v2 rfl rfl) h2
  obtain ⟨a3, rfl, rfl, rfl, w3⟩ := open_int Try.underlying2 (hval 3 2 v3 rfl rfl) h3
  refine (law_calls (Ct.mono (Au.withinL (m := memOf W) a0 a1 a2 a3 w0) fun v m' B _ h => h.1)).mono fun e W' ⟨he, bel⟩ => ?_
  subst he
  exact ⟨_, rfl, _, _, _, [], _, [], hW', trodAll_mk1 (shut_bool Try.underlying4 _), hback W' bel, rfl, bel.frame _, fun h => by cases h⟩
theorem over : Rows.autoWithinRow.holds Try.pinned (OpenSpec.ofChange Rows.autoWithinSpec) :=
  OpenClaim.holds_of_wide 3 Try.f3 rfl rfl rfl rfl rfl rfl rfl ⟨rfl, rfl, rfl, rfl, rfl⟩ rfl rfl rfl rfl rfl (by kernel_rfl) Try.func3 (by kernel_rfl)
    (of_decide_eq_true (by kernel_rfl)) (by unfold Func.isWrapper; first | (rw [if_pos (by decide +kernel)]; kernel_rfl) | (rw [if_neg (by decide +kernel)]; exact ⟨rfl, rfl⟩))
    (fun os started H enc _ => lifted os started H enc)
theorem proved : Rows.AutoWithinSaid := over
end AutoWithinL
end Go.Proofs.Ytecifniognbomaa
