/- RulesTell: of any state, any labels, and any event, it is said what the document says. No condition. -/
import Derived.Test.YtgkgbdkcbbpjhaaGreatRu2Z13
/- RulesTell: of any state, any labels, and any event, it is said what the document says. No condition. -/
set_option linter.unusedSimpArgs false
set_option linter.unusedVariables false
set_option linter.unusedSectionVars false
set_option maxRecDepth 20000
set_option maxHeartbeats 4000000
namespace Go.Proofs.YtgkgbdkcbbpjhaaGreat
open Go Go.J
attribute [local irreducible] At AtQ AtM AtM1 PR Ct Pu Rd Res.blk Res.own Res.ex RVs RV
namespace Ru
open Se Win St
set_option maxRecDepth 100000 in
theorem tellsL {m : Mem} (u : Sta) (l : Lst Lab) (e : Ev) (hu : u.Lay m) (sl1 : Sl m Lb.cells 2 l.p l.c l.l) :
    Ct Tryz.prog 3 #[u.v, l.v, e.v] m [] (fun v m' B => v = .bool true ∧ B = []) := by
  have hlv := fun (m' : Mem) (h : m.le m') => rules_lives (m := m')
  have hsu := fun (m' : Mem) (h : m.le m') => small17 u (hu.mono h)
  have hsl := fun (m' : Mem) (h : m.le m') => Lb.small l.p l.c l.l (sl1.mono h)
  unfold smU at hsu
  by_cases h0 : u.sm
  rotate_left
  · rw [if_neg h0] at hsu
    refine Ct.enterV (by rfl) Tryz.func3 rfl Tryz.ntmps3 rfl (fun w0 Rest => ?_)
    (repeat' (first | refine zss ?_ | refine zsM ?_ | ((with_reducible first | apply AtM1.cr | apply AtQ.cr | apply At.cr); exact rfl; exact rfl; exact fun _ hmm => hlv _ hmm; exact ztk; kernel_rfl) | ((with_reducible first | apply AtM1.cr | apply AtQ.cr | apply At.cr); exact rfl; exact rfl; exact fun _ hmm => hsu _ hmm; exact ztk; kernel_rfl) | ((with_reducible first | apply AtM1.cr | apply AtQ.cr | apply At.cr); exact rfl; exact rfl; exact fun _ hmm => hsl _ hmm; exact ztk; kernel_rfl) | ((with_reducible apply At.box (d := 3)); exact rfl; exact rfl; exact rfl; intro b3) | ((with_reducible apply At.box (d := 5)); exact rfl; exact rfl; exact rfl; intro b5) | (refine zsp ?_ ?_ <;> (intro hc; (try simp only [zhcs, reduceCtorEq] at hc); (try (exfalso; first | (first | omega | exact absurd rfl hc | exact absurd hc (by decide)) | contradiction | omega | exact absurd rfl hc | exact absurd (by decide) hc))))))
    all_goals ((with_reducible apply At.retB1 (B := [])); exact rfl; exact rfl; exact zml; exact zkp; exact ⟨rfl, rfl⟩)
  rw [if_pos h0] at hsu
  by_cases h1 : Lb.few l.l
  rotate_left
  · rw [if_neg h1] at hsl
    refine Ct.enterV (by rfl) Tryz.func3 rfl Tryz.ntmps3 rfl (fun w0 Rest => ?_)
    (repeat' (first | refine zss ?_ | refine zsM ?_ | ((with_reducible first | apply AtM1.cr | apply AtQ.cr | apply At.cr); exact rfl; exact rfl; exact fun _ hmm => hlv _ hmm; exact ztk; kernel_rfl) | ((with_reducible first | apply AtM1.cr | apply AtQ.cr | apply At.cr); exact rfl; exact rfl; exact fun _ hmm => hsu _ hmm; exact ztk; kernel_rfl) | ((with_reducible first | apply AtM1.cr | apply AtQ.cr | apply At.cr); exact rfl; exact rfl; exact fun _ hmm => hsl _ hmm; exact ztk; kernel_rfl) | ((with_reducible apply At.box (d := 3)); exact rfl; exact rfl; exact rfl; intro b3) | ((with_reducible apply At.box (d := 5)); exact rfl; exact rfl; exact rfl; intro b5) | (refine zsp ?_ ?_ <;> (intro hc; (try simp only [zhcs, reduceCtorEq] at hc); (try (exfalso; first | (first | omega | exact absurd rfl hc | exact absurd hc (by decide)) | contradiction | omega | exact absurd rfl hc | exact absurd (by decide) hc))))))
    all_goals ((with_reducible apply At.retB1 (B := [])); exact rfl; exact rfl; exact zml; exact zkp; exact ⟨rfl, rfl⟩)
  rw [if_pos h1] at hsl
  have ho := hu.ok h0
  have hmid := h1.mid
  have hlen : l.l.length ≤ 1000000000 := Nat.le_trans h1.1 (by decide)
  have k3 := fun (m' : Mem) (h : m.le m') => open_ u (ho.mono h)
  have k4 := fun (m' : Mem) (h : m.le m') => Dd.open_ u (ho.mono h)
  have k6 := fun (m' : Mem) (h : m.le m') => where_ u l e (ho.mono h) hlen hmid (sl1.mono h)
  have k7 := fun (m' : Mem) (h : m.le m') => Dd.where_ u l e (ho.mono h) hlen hmid (sl1.mono h)
  have k8 := fun (m' : Mem) (h : m.le m') => accept u l e (ho.mono h) hlen hmid (sl1.mono h)
  have k9 := fun (m' : Mem) (h : m.le m') => Dd.accept u l e (ho.mono h) hlen hmid (sl1.mono h)
  generalize whr u l.l e = w at k6 k7 k8 k9
  generalize opA u = oa at k3 k4
  generalize opB u = ob at k3 k4
  obtain ⟨w1, w2, w3⟩ := w
  dsimp only at k6 k7 k8 k9
  clear hu ho h0 h1 hmid hlen
  refine Ct.enterV (by rfl) Tryz.func3 rfl Tryz.ntmps3 rfl (fun w0 Rest => ?_)
  (repeat' (first | refine zss ?_ | refine zsM ?_ | ((with_reducible first | apply AtM1.cr | apply AtQ.cr | apply At.cr); exact rfl; exact rfl; exact fun _ hmm => hlv _ hmm; exact ztk; kernel_rfl) | ((with_reducible first | apply AtM1.cr | apply AtQ.cr | apply At.cr); exact rfl; exact rfl; exact fun _ hmm => hsu _ hmm; exact ztk; kernel_rfl) | ((with_reducible first | apply AtM1.cr | apply AtQ.cr | apply At.cr); exact rfl; exact rfl; exact fun _ hmm => hsl _ hmm; exact ztk; kernel_rfl) | ((with_reducible first | apply AtM1.cr | apply AtQ.cr | apply At.cr); exact rfl; exact rfl; exact fun _ hmm => k3 _ hmm; exact ztk; kernel_rfl) | ((with_reducible first | apply AtM1.cr | apply AtQ.cr | apply At.cr); exact rfl; exact rfl; exact fun _ hmm => k4 _ hmm; exact ztk; kernel_rfl) | ((with_reducible first | apply AtM1.cr | apply AtQ.cr | apply At.cr); exact rfl; exact rfl; exact fun _ hmm => k6 _ hmm; exact ztk; kernel_rfl) | ((with_reducible first | apply AtM1.cr | apply AtQ.cr | apply At.cr); exact rfl; exact rfl; exact fun _ hmm => k7 _ hmm; exact ztk; kernel_rfl) | ((with_reducible first | apply AtM1.cr | apply AtQ.cr | apply At.cr); exact rfl; exact rfl; exact fun _ hmm => k8 _ hmm; exact ztk; kernel_rfl) | ((with_reducible first | apply AtM1.cr | apply AtQ.cr | apply At.cr); exact rfl; exact rfl; exact fun _ hmm => k9 _ hmm; exact ztk; kernel_rfl) | ((with_reducible apply At.box (d := 3)); exact rfl; exact rfl; exact rfl; intro b3) | ((with_reducible apply At.box (d := 5)); exact rfl; exact rfl; exact rfl; intro b5) | (refine zsp ?_ ?_ <;> (intro hc; (try simp only [zhcs, reduceCtorEq] at hc); (try (exfalso; first | (first | omega | exact absurd rfl hc | exact absurd hc (by decide)) | contradiction | omega | exact absurd rfl hc | exact absurd (by decide) hc))))))
  all_goals ((with_reducible apply At.retB1 (B := [])); exact rfl; exact rfl; exact zml; exact zkp; exact ⟨by first | rfl | simp, rfl⟩)
end Ru
namespace RulesTellL
open Go.ChangeShapes Go.WideShapes Go.ChangeAt Go.RowKit
open Go.ChangeMaps (open_string shut_string)
theorem own : ownKnob Tryz.prog.godebug = none := by kernel_rfl
theorem laidOut : laidOutB Tryz.prog = true := by kernel_rfl
set_option maxRecDepth 100000 in
theorem lifted (os : Os) (started : os.Started) (H : Type) (enc : TypeId × Value → H) :
    ReturnsInHanded {} Tryz.checked os 3 .any (Rows.rulesTellSpec.pre6 enc Tryz.prog Tryz.f3 Rows.rulesTellRow.domain false) (Rows.rulesTellSpec.post enc Tryz.prog Tryz.f3 false true false false) := by
  refine returnsInHanded_of_change (C := Tryz.checked) own started (by kernel_rfl) Tryz.func3
    (ChangeSpec.witness6 (enc := enc) (C := Tryz.checked) false ⟨#[], #[.agg #[.int .i64 0, .int .i64 0, .int .i64 0, .int .i64 0, .int .i64 0, .int .i64 0, .int .i64 0, .int .i64 0, .int .i64 0, .int .i64 0, .int .i64 0, .slice none 0 0], .slice none 0 0, .agg #[.int .i64 0, .int .u64 0, .int .i64 0, .bool false]], []⟩ 8 (by kernel_rfl) (by kernel_rfl) (by kernel_rfl) (by kernel_rfl)) ?_
  intro W base args ds gs before hval0 hW hcnd _
  have hval : ∀ (j : Nat) t v, Tryz.f3.params[j]? = some t → args[j]? = some v → Value.okWide Tryz.prog W .any base t v := hval0
  have hW' := hW
  obtain ⟨p, q, hA0, hV, rfl, hfz, hnd⟩ := hW
  have hA : DataW.TrodAll enc Tryz.prog W 0 (fun _ => true) true Tryz.f3.params.toList args.toList ds p := hA0
  rw [Tryz.params3] at hA hval
  obtain ⟨rfl, rfl⟩ := trodVars_none hV
  have hlt : ∀ x ∈ p, x.block < W.heap.size := fun x hx => hW'.lt x (by simpa using hx)
  have hback := fun (W' : World) (bel : Below W.heap.size W W') => trodAll_below laidOut bel _ _ _ _ (by kernel_rfl) hA hlt
  obtain ⟨v0, vs0, d0, ds0, p0, q0, hargs, rfl, rfl, h0, r0⟩ := trodAll_cons hA
  obtain ⟨v1, vs1, d1, ds1, p1, q1, rfl, rfl, rfl, h1, r1⟩ := trodAll_cons r0
  obtain ⟨v2, vs2, d2, ds2, p2, q2, rfl, rfl, rfl, h2, r2⟩ := trodAll_cons r1
  obtain ⟨rfl, rfl, rfl⟩ := trodAll_nil r2
  obtain rfl : args = #[v0, v1, v2] := by cases args; simp_all
  obtain ⟨a0, rfl, w0⟩ := open_flat_arg (f := Sta.cells) (φ := Sta.Lay (memOf W)) [.int .i64, .int .i64, .int .i64, .int .i64, .int .i64, .int .i64, .int .i64, .int .i64, .int .i64, .int .i64, .int .i64, .sl 26] Tryz.underlying28 (by kernel_rfl) St.dec_sta (hval 0 28 v0 rfl rfl) h0
  obtain ⟨p1, c1, a1, rfl, s1, w1⟩ := open_sl_arg (f := Lb.cells) (sz := 2) inferInstance (fun _ => True) Tryz.underlying29 (by rfl) (dec_flat' [.str, .str] (by kernel_rfl) St.dec_lab) (okWide_slice Tryz.underlying29 (hval 1 29 v1 rfl rfl)) h1
  obtain ⟨a2, rfl, w2⟩ := open_flat_arg (f := Ev.cells) (φ := Ev.In) [.int .i64, .int .u64, .int .i64, .bool] Tryz.underlying32 (by kernel_rfl) Ev.dec_ev (hval 2 32 v2 rfl rfl) h2
  refine (law_calls (Ct.mono (Ru.tellsL (m := memOf W) a0 ⟨p1, c1, a1⟩ a2 w0 s1) fun v m' B _ h => h.1)).mono fun e W' ⟨he, bel⟩ => ?_
  subst he
  exact ⟨_, rfl, _, _, _, [], _, [], hW', trodAll_mk1 (shut_bool Tryz.underlying4 _), hback W' bel, rfl, bel.frame _, fun h => by cases h⟩
theorem over : Rows.rulesTellRow.holds Tryz.pinned (OpenSpec.ofChange Rows.rulesTellSpec) :=
  OpenClaim.holds_of_wide 3 Tryz.f3 rfl rfl rfl rfl rfl rfl rfl ⟨rfl, rfl, rfl, rfl, rfl⟩ rfl rfl rfl rfl rfl (by kernel_rfl) Tryz.func3 (by kernel_rfl)
    (of_decide_eq_true (by kernel_rfl)) (by unfold Func.isWrapper; first | (rw [if_pos (by decide +kernel)]; kernel_rfl) | (rw [if_neg (by decide +kernel)]; exact ⟨rfl, rfl⟩))
    (fun os started H enc _ => lifted os started H enc)
theorem proved : Rows.RulesTellSaid := over
end RulesTellL
end Go.Proofs.YtgkgbdkcbbpjhaaGreat
