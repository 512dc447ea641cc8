/- TopRuns: whatever is read, the law's call returns true; no condition. -/
import Derived.Test.YtlnhfhejcjfmjaaTop4R
import Derived.Test.YtlnhfhejcjfmjaaEvD
set_option linter.unusedSimpArgs false
set_option linter.unusedVariables false
set_option linter.unusedSectionVars false
set_option maxRecDepth 20000
namespace Go.Proofs.Ytlnhfhejcjfmjaa
open Go Go.J
attribute [local irreducible] At AtQ AtM AtM1 PR Ct Pu Rd Res.blk Res.own Res.ex RVs RV
namespace Top4
open Go.RowKit
theorem dec_h {H : Type} {enc : TypeId × Value → H} {W : World} : ∀ cs, Go.J.Fit enc Try.prog W [.int .u16] cs → ∃ a : Nat, cs = Ls.fH a ∧ a < 65536 := by
  intro cs h
  obtain ⟨_, _, rfl, h1, h⟩ := h.cons
  obtain rfl := h.nil
  obtain ⟨a, rfl, wa⟩ := h1.int
  have hb : 0 ≤ a ∧ a ≤ 65535 := by
    simp only [Lit.wf, IntKind.min, IntKind.max, IntKind.signed, IntKind.bits, Bool.and_eq_true, decide_eq_true_eq] at wa
    simpa using wa
  exact ⟨a.toNat, by show [_] = [Value.int .u16 (a.toNat : Int)]; rw [Int.toNat_of_nonneg hb.1], by omega⟩
theorem dec_sx {H : Type} {enc : TypeId × Value → H} {W : World} : ∀ cs, Go.J.Fit enc Try.prog W [.sl 37] cs → ∃ x : Ls.SX Nat, cs = Ls.fX x ∧ (Sl (memOf W) Ls.fH 1 x.p x.c x.l ∧ ∀ y ∈ x.l, y < 65536) := by
  intro cs h
  obtain ⟨v, _, rfl, h1, h⟩ := h.cons
  obtain rfl := h.nil
  obtain ⟨p, c, l, rfl, h2, h3⟩ := Fit1.sl (f := Ls.fH) inferInstance (fun y => y < 65536) Try.underlying37 (by rfl) (dec_flat' [.int .u16] (by kernel_rfl) dec_h) h1
  exact ⟨⟨l, p, c⟩, rfl, h2, h3⟩
end Top4
namespace TopRunsL
open Go.ChangeShapes Go.WideShapes Go.ChangeAt Go.RowKit
open Go.ChangeMaps (open_string shut_string)
theorem own : ownKnob Try.prog.godebug = none := by kernel_rfl
theorem laidOut : laidOutB Try.prog = true := by kernel_rfl
set_option maxRecDepth 100000 in
theorem lifted (os : Os) (started : os.Started) (H : Type) (enc : TypeId × Value → H) :
    ReturnsInHanded {} Try.checked os 4 .any (Rows.topRunsSpec.pre6 enc Try.prog Try.f4 Rows.topRunsRow.domain false) (Rows.topRunsSpec.post enc Try.prog Try.f4 false true false false) := by
  refine returnsInHanded_of_change (C := Try.checked) own started (by kernel_rfl) Try.func4
    (ChangeSpec.witness6 (enc := enc) (C := Try.checked) false ⟨#[], #[.slice none 0 0, .int .u8 0], []⟩ 8 (by kernel_rfl) (by kernel_rfl) (by kernel_rfl) (by kernel_rfl)) ?_
  intro W base args ds gs before hval0 hW hcnd _
  have hval : ∀ (j : Nat) t v, Try.f4.params[j]? = some t → args[j]? = some v → Value.okWide Try.prog W .any base t v := hval0
  have hW' := hW
  obtain ⟨p, q, hA0, hV, rfl, hfz, hnd⟩ := hW
  have hA : DataW.TrodAll enc Try.prog W 0 (fun _ => true) true Try.f4.params.toList args.toList ds p := hA0
  rw [Try.params4] at hA hval
  obtain ⟨rfl, rfl⟩ := trodVars_none hV
  have hlt : ∀ x ∈ p, x.block < W.heap.size := fun x hx => hW'.lt x (by simpa using hx)
  have hback := fun (W' : World) (bel : Below W.heap.size W W') => trodAll_below laidOut bel _ _ _ _ (by kernel_rfl) hA hlt
  obtain ⟨v0, vs0, d0, ds0, p0, q0, hargs, rfl, rfl, h0, r0⟩ := trodAll_cons hA
  obtain ⟨v1, vs1, d1, ds1, p1, q1, rfl, rfl, rfl, h1, r1⟩ := trodAll_cons r0
  obtain ⟨rfl, rfl, rfl⟩ := trodAll_nil r1
  obtain rfl : args = #[v0, v1] := by cases args; simp_all
  obtain ⟨p0, c0, a0, rfl, s0, w0⟩ := open_sl_arg (f := Ls.fX) (sz := 1) inferInstance (fun x => (Sl (memOf W) Ls.fH 1 x.p x.c x.l ∧ ∀ y ∈ x.l, y < 65536)) Try.underlying36 (by rfl) (dec_flat' [.sl 37] (by kernel_rfl) Top4.dec_sx) (okWide_slice Try.underlying36 (hval 0 36 v0 rfl rfl)) h0
  obtain ⟨a1, rfl, rfl, rfl, w1⟩ := open_int Try.underlying5 (hval 1 5 v1 rfl rfl) h1
  refine (law_calls (Ct.mono (Top4.runsT (m := memOf W) p0 c0 a0 a1 (bounds_u8 w1).1 (bounds_u8 w1).2 s0 w0) fun v m' B _ h => h.1)).mono fun e W' ⟨he, bel⟩ => ?_
  subst he
  exact ⟨_, rfl, _, _, _, [], _, [], hW', trodAll_mk1 (shut_bool Try.underlying4 _), hback W' bel, rfl, bel.frame _, fun h => by cases h⟩
theorem over : Rows.topRunsRow.holds Try.pinned (OpenSpec.ofChange Rows.topRunsSpec) :=
  OpenClaim.holds_of_wide 4 Try.f4 rfl rfl rfl rfl rfl rfl rfl ⟨rfl, rfl, rfl, rfl, rfl⟩ rfl rfl rfl rfl rfl (by kernel_rfl) Try.func4 (by kernel_rfl)
    (of_decide_eq_true (by kernel_rfl)) (by unfold Func.isWrapper; first | (rw [if_pos (by decide +kernel)]; kernel_rfl) | (rw [if_neg (by decide +kernel)]; exact ⟨rfl, rfl⟩))
    (fun os started H enc _ => lifted os started H enc)
theorem proved : Rows.TopRunsSaid := over
end TopRunsL
end Go.Proofs.Ytlnhfhejcjfmjaa
