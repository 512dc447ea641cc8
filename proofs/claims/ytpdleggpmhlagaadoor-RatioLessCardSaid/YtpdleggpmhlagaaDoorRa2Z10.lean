/- RatioLess: whatever two fractions, the package and the document say alike which is less. Conditions: the library's tables and the document's one read as the row's cells say (the card ties them to the program's text). -/
import Derived.Test.YtpdleggpmhlagaaDoorRa2Z9
/- RatioLess: whatever two fractions, the package and the document say alike which is less. Conditions: the library's tables and the document's one read as the row's cells say (the card ties them to the program's text). -/
set_option linter.unusedSimpArgs false
set_option linter.unusedVariables false
set_option linter.unusedSectionVars false
set_option maxRecDepth 20000
set_option maxHeartbeats 4000000
namespace Go.Proofs.YtpdleggpmhlagaaDoor
open Go Go.J
attribute [local irreducible] At AtQ AtM AtM1 PR Ct Pu Rd Res.blk Res.own Res.ex RVs RV
namespace Ra
open Wide
theorem lessL {m : Mem} (hz : TZ m) (hT : Tab m) (h1 : One m) (x y : Nat × Nat) (hx : In2 x) (hy : In2 y) :
    Ct Tryd.prog 4 #[rv x.1 x.2, rv y.1 y.2] m [] (fun v m' B => v = .bool true ∧ B = []) := by
  obtain ⟨a, b⟩ := x
  obtain ⟨c, d⟩ := y
  obtain ⟨ha, hb⟩ := hx
  obtain ⟨hc0, hd⟩ := hy
  dsimp only at ha hb hc0 hd ⊢
  unfold In at ha hb hc0 hd
  have hl := fun (m' : Mem) (h : m.le m') => ratio_lives (hz.mono h) (hT.mono h)
  have a1 := fun (m' : Mem) (h : m.le m') => lessT (m := m') (hz.mono h) a b c d ha hb hc0 hd
  have c1 := fun (m' : Mem) (h : m.le m') => less_rr (m := m') (h1.mono h) a b c d ha hb hc0 hd
  clear ha hb hc0 hd
  refine Ct.enterV (by rfl) Tryd.func4 rfl Tryd.ntmps4 rfl (fun w0 Rest => ?_)
  (repeat' (first | refine zss ?_ | ((first | (with_reducible first | apply At.val | apply AtQ.val)); (exact zprA); exact rfl) | refine zs0 ?_ | ((with_reducible first | apply AtM1.cr | apply AtQ.cr | apply At.cr); exact rfl; exact rfl; exact fun _ hmm => hl _ hmm; exact ztk; kernel_rfl) | ((with_reducible first | apply AtM1.cr | apply AtQ.cr | apply At.cr); exact rfl; exact rfl; exact fun _ hmm => a1 _ hmm; exact ztk; kernel_rfl) | ((with_reducible first | apply AtM1.cr | apply AtQ.cr | apply At.cr); exact rfl; exact rfl; exact fun _ hmm => c1 _ hmm; exact ztk; kernel_rfl) | ((with_reducible apply At.box (d := 2)); exact rfl; exact rfl; exact rfl; intro b2) | ((with_reducible apply At.box (d := 3)); exact rfl; exact rfl; exact rfl; intro b3) | (refine zsp ?_ ?_ <;> (intro hc; (try simp only [zhcs, reduceCtorEq] at hc); (try (exfalso; first | (first | omega | exact absurd rfl hc | exact hc rfl) | contradiction | omega | exact absurd rfl hc | exact absurd (by decide) hc))))))
  all_goals ((with_reducible apply At.retB1 (B := [])); exact rfl; exact rfl; exact zml; exact zkp; exact ⟨by first | rfl | simp [andL], rfl⟩)
end Ra
namespace RatioLessCardL
open Go.ChangeShapes Go.WideShapes Go.ChangeAt Go.RowKit
open Go.ChangeMaps (open_string shut_string)
theorem own : ownKnob Tryd.prog.godebug = none := by kernel_rfl
theorem laidOut : laidOutB Tryd.prog = true := by kernel_rfl
set_option maxRecDepth 100000 in
theorem door_met (os : Os) (args : Array Value) : laidMetH Tryd.prog Rows.ratioLessRow.laid ((World.doorLaid Tryd.prog 400 os).forCall (fun _ _ => 0) ⟨#[], args, []⟩).memory :=
  laidMetH_of_parts3 (fuel := 8) (laidMet_of_run' 8 (by kernel_rfl) (by kernel_rfl)) (by kernel_rfl) (by kernel_rfl)
set_option maxRecDepth 100000 in
theorem lifted (os : Os) (started : os.Started) (H : Type) (enc : TypeId × Value → H) :
    ReturnsInHanded {} Tryd.checked os 4 .any (fun w args => (Rows.ratioLessSpec.pre enc Tryd.prog Tryd.f4 [] false w args ∧ laidMetH Tryd.prog Rows.ratioLessRow.laid w) ∧ sizedMet enc Tryd.prog Tryd.f4 (OpenSpec.ofChange Rows.ratioLessSpec) false w args)
      (Rows.ratioLessSpec.post enc Tryd.prog Tryd.f4 false true false false) := by
  refine returnsInHanded_of_change_and (C := Tryd.checked) (X := fun w _ => laidMetH Tryd.prog Rows.ratioLessRow.laid w) (fun _ _ _ hh h => h.of_heap hh) own started (by kernel_rfl) Tryd.func4
    (ChangeSpec.witness_shaped (enc := enc) (C := Tryd.checked) (os := os) (X := fun w _ => laidMetH Tryd.prog Rows.ratioLessRow.laid w) false (World.doorLaid Tryd.prog 400 os) #[.agg #[.int .u64 0, .int .u64 0, .int .u64 0, .int .u64 0], .agg #[.int .u64 0, .int .u64 0, .int .u64 0, .int .u64 0]] 8 rfl (World.shaped_of_RefB (by kernel_rfl) (by kernel_rfl)) (by kernel_rfl) (by kernel_rfl) (by kernel_rfl) (door_met os _)) ?_
  intro W base args ds gs before hval0 hW hcnd _ hL _
  have hval : ∀ (j : Nat) t v, Tryd.f4.params[j]? = some t → args[j]? = some v → Value.okWide Tryd.prog W .any base t v := hval0
  have hW' := hW
  obtain ⟨p, q, hA0, hV, rfl, hfz, hnd⟩ := hW
  have hA : DataW.TrodAll enc Tryd.prog W 0 (fun _ => true) true Tryd.f4.params.toList args.toList ds p := hA0
  rw [Tryd.params4] at hA hval
  obtain ⟨rfl, rfl⟩ := trodVars_none hV
  have hlt : ∀ x ∈ p, x.block < W.heap.size := fun x hx => hW'.lt x (by simpa using hx)
  have hback := fun (W' : World) (bel : Below W.heap.size W W') => trodAll_below laidOut bel _ _ _ _ (by kernel_rfl) hA hlt
  obtain ⟨v0, vs0, d0, ds0, p0, q0, hargs, rfl, rfl, h0, r0⟩ := trodAll_cons hA
  obtain ⟨v1, vs1, d1, ds1, p1, q1, rfl, rfl, rfl, h1, r1⟩ := trodAll_cons r0
  obtain ⟨rfl, rfl, rfl⟩ := trodAll_nil r1
  obtain rfl : args = #[v0, v1] := by cases args; simp_all
  obtain ⟨a0, rfl, w0⟩ := open_flat_arg (f := Ra.fd) (φ := Ra.In2) [.int .u64, .int .u64, .int .u64, .int .u64] Tryd.underlying26 (by kernel_rfl) Ra.dec_frac (hval 0 26 v0 rfl rfl) h0
  obtain ⟨a1, rfl, w1⟩ := open_flat_arg (f := Ra.fd) (φ := Ra.In2) [.int .u64, .int .u64, .int .u64, .int .u64] Tryd.underlying26 (by kernel_rfl) Ra.dec_frac (hval 1 26 v1 rfl rfl) h1
  refine (law_calls (Ct.mono (Ra.lessL (m := memOf W) (Ra.tz_of hL (by kernel_rfl)) (Ra.tab_of hL (by kernel_rfl)) (Ra.one_of hL (by kernel_rfl)) a0 a1 w0 w1) fun v m' B _ h => h.1)).mono fun e W' ⟨he, bel⟩ => ?_
  subst he
  exact ⟨_, rfl, _, _, _, [], _, [], hW', trodAll_mk1 (shut_bool Tryd.underlying4 _), hback W' bel, rfl, bel.frame _, fun h => by cases h⟩
theorem over : Rows.ratioLessRow.holds Tryd.pinned (OpenSpec.ofChange Rows.ratioLessSpec) :=
  OpenClaim.holds_of_wide 4 Tryd.f4 rfl rfl rfl rfl rfl rfl rfl ⟨rfl, rfl, rfl, rfl, rfl⟩ rfl rfl rfl rfl rfl (by kernel_rfl) Tryd.func4 (by kernel_rfl)
    (of_decide_eq_true (by kernel_rfl)) (by unfold Func.isWrapper; first | (rw [if_pos (by decide +kernel)]; kernel_rfl) | (rw [if_neg (by decide +kernel)]; exact ⟨rfl, rfl⟩))
    (fun os started H enc _ => lifted os started H enc)
theorem proved : Rows.RatioLessCardSaid :=
  Claim7.holds_tied_plain_at .later [] Rows.ratioLessCard.laidKinds true Rows.ratioLessCard.stood.harness Rows.ratioLessCard.stood.looks
    over (fun _ h => by cases h) (by kernel_rfl) (fun _ h => by cases h) ratioLess_row_tie rfl ⟨rfl, rfl⟩ (by kernel_rfl) rfl
    (fun f fn hf hfn => by
      obtain rfl : f = 4 := Option.some.inj ((show Tryd.prog.funcNamed Tryd.f4.name = some 4 by kernel_rfl).symm.trans hf) |>.symm
      obtain rfl : fn = Tryd.f4 := (Option.some.inj (Tryd.func4.symm.trans hfn)).symm
      exact ⟨by kernel_rfl, fun j t ht => by
        rw [Tryd.params4] at ht
        have hm := Array.mem_of_getElem? ht
        have hall : ((Tryd.f4.params).all fun u => !Tryd.prog.wantsStandIn u) = true := by kernel_rfl
        rw [Tryd.params4] at hall
        exact (show Tryd.prog.wantsStandIn t = false by simpa using Array.all_eq_true'.1 hall t hm)⟩)
    (by kernel_rfl)
end RatioLessCardL
end Go.Proofs.YtpdleggpmhlagaaDoor
