/- QuantTells: whatever fractions, the package and the document check, sort, and answer alike. Conditions: the library's table and the document's one read as the row's cells say (the card ties them to the program's text). -/
import Derived.Test.YtmnlmmbfjfgfeaaDoorQu1Z10
/- QuantTells: whatever fractions, the package and the document check, sort, and answer alike. Conditions: the library's table and the document's one read as the row's cells say (the card ties them to the program's text). -/
set_option linter.unusedSimpArgs false
set_option linter.unusedVariables false
set_option linter.unusedSectionVars false
set_option maxRecDepth 20000
set_option maxHeartbeats 4000000
namespace Go.Proofs.YtmnlmmbfjfgfeaaDoor
open Go Go.J
attribute [local irreducible] At AtQ AtM AtM1 PR Ct Pu Rd Res.blk Res.own Res.ex RVs RV
namespace Qu
open Wide
theorem sortD {m : Mem} (h1' : Ra.One m) (p : Option Addr) (c : Nat) (l : List (Nat × Nat)) (hl : l.length ≤ 1000000) (hb : ∀ x ∈ l, In2 x) (sl0 : Sl m fd 4 p c l) :
    Ct Tryd.prog 9 #[.slice p l.length c] m [] (fun v m' B => B = [] ∧ ∃ p c, v = .tuple #[.slice p (outS l).length c, .int .i64 (chkL l)] ∧ Sl m' fd 4 p c (outS l)) :=
  Ct.slice (R := fun v p' c' => v = .tuple #[.slice p' (outS l).length c', .int .i64 (chkL l)]) inferInstance (Ct.mono (sort_r h1' p c l hl hb sl0) fun v m' B _ ⟨_, p', c', h1, h2⟩ => ⟨p', c', h1, h2⟩)
theorem outS_len (l : List (Nat × Nat)) : (outS l).length ≤ l.length := by
  unfold outS
  split
  · exact Nat.le_of_eq (srt_len l)
  · exact Nat.zero_le _
theorem tells {m : Mem} (hz : Ra.TZ m) (h1' : Ra.One m) (p : Option Addr) (c : Nat) (l : List (Nat × Nat)) (f : Nat × Nat) (num den n : Int) (hb : ∀ x ∈ l, In2 x) (hf : In2 f) (h1 : 0 ≤ num ∧ num ≤ 18446744073709551615) (h2 : 0 ≤ den ∧ den ≤ 18446744073709551615) (hn : -9223372036854775808 ≤ n ∧ n ≤ 9223372036854775807) (sl0 : Sl m fd 4 p c l) :
    Ct Tryd.prog 3 #[.slice p l.length c, fv f, .int .u64 num, .int .u64 den, .int .i64 n] m [] (fun v m' B => v = .bool true ∧ B = []) := by
  obtain ⟨nu, rfl⟩ : ∃ k : Nat, num = (k : Int) := ⟨num.toNat, by omega⟩
  obtain ⟨de, rfl⟩ : ∃ k : Nat, den = (k : Int) := ⟨den.toNat, by omega⟩
  have hl := fun (m' : Mem) (h : m.le m') => lives (m := m') (hz.mono h)
  by_cases h60 : l.length ≤ 60
  rotate_left
  · refine Ct.enterV (by rfl) Tryd.func3 rfl Tryd.ntmps3 rfl (fun w0 Rest => ?_)
    (repeat' (first | refine zss ?_ | refine zsM ?_ | ((with_reducible first | apply AtM1.cr | apply AtQ.cr | apply At.cr); exact rfl; exact rfl; exact fun _ hmm => hl _ hmm; exact ztk; kernel_rfl) | ((with_reducible apply At.box (d := 6)); exact rfl; exact rfl; exact rfl; intro b6) | ((with_reducible apply At.alloc (d := 19)); exact rfl; exact rfl; intro b19) | ((with_reducible apply At.alloc (d := 21)); exact rfl; exact rfl; intro b21) | ((with_reducible apply At.alloc (d := 23)); exact rfl; exact rfl; intro b23) | ((with_reducible apply At.alloc (d := 25)); exact rfl; exact rfl; intro b25) | (refine zsp ?_ ?_ <;> (intro hc; (try simp only [zhcs, reduceCtorEq] at hc); (try (exfalso; first | omega | contradiction | omega | exact absurd rfl hc | exact absurd (by decide) hc))))))
    all_goals ((with_reducible apply At.retB1 (B := [])); exact rfl; exact rfl; exact zml; exact zkp; exact ⟨rfl, rfl⟩)
  have hm : l.length ≤ 1000000 := by omega
  have a1 := fun (m' : Mem) (h : m.le m') => sortC (m := m') (hz.mono h) p c l.length (outS l).length l (outS l) (chkL l) rfl hm hb rfl rfl rfl (sl0.mono h)
  have a2 := fun (m' : Mem) (h : m.le m') => sortD (m := m') (h1'.mono h) p c l hm hb (sl0.mono h)
  have a3 := rank_ n hn.2 nu de (by omega) (by omega)
  have a4 := rank_r n hn.2 nu de (by omega) (by omega)
  have a5 := fun (m' : Mem) (h : m.le m') => Rd.of_eq (of_q (m := m') (hz.mono h) nu de (by omega) (by omega) p c l hm hb (sl0.mono h))
  have a6 := fun (m' : Mem) (h : m.le m') => Rd.of_eq (of_r40 (m := m') (h1'.mono h) nu de (by omega) (by omega) p c l hm hb (sl0.mono h))
  have a7 := fun (m' : Mem) (h : m.le m') => Rd.of_le (share_ (m := m') (hz.mono h) f hf p c l hm hb (sl0.mono h))
  have a8 := fun (m' : Mem) (h : m.le m') => Rd.of_le (share_r (m := m') (h1'.mono h) f hf p c l hm hb (sl0.mono h))
  have a9 := fun (m' : Mem) (h : m.le m') => check_ (m := m') (hz.mono h) p c l hm hb (sl0.mono h)
  have aa := fun (m' : Mem) (h : m.le m') => check_r (m := m') (h1'.mono h) p c l hm hb (sl0.mono h)
  have ho := outS_len l
  generalize outS l = o at *
  generalize chkL l = w at *
  generalize rkV n nu de = r at *
  generalize ofV nu de l = x at *
  generalize shV f l = y at *
  obtain ⟨⟨xn, xd⟩, xe⟩ := x
  obtain ⟨⟨yn, yd⟩, ye⟩ := y
  dsimp only at a5 a6 a7 a8
  clear hb hf hz h1' h1 h2 hn hm
  refine Ct.enterV (by rfl) Tryd.func3 rfl Tryd.ntmps3 rfl (fun w0 Rest => ?_)
  (repeat' (first | refine zss ?_ | ((first | (with_reducible first | apply At.val | apply AtQ.val)); (first | exact pr_feq (a := (xn, xd)) (b := (xn, xd)) (by rfl) (by rfl) | exact pr_feq (a := (yn, yd)) (b := (yn, yd)) (by rfl) (by rfl)); exact rfl) | refine zsM ?_ | ((with_reducible first | apply AtM1.cr | apply AtQ.cr | apply At.cr); exact rfl; exact rfl; exact fun _ hmm => hl _ (Mem.le_trans zml hmm); exact ztk; kernel_rfl) | ((with_reducible first | apply At.c1 | apply At.c0); exact rfl; exact rfl; exact a1 _ zml; exact ztk; kernel_rfl; rintro v' m' B' hm' ⟨rfl, p5, c5, rfl, sl5⟩; (try replace sl0 := sl0.mono hm'); (try replace sl5 := sl5.mono hm'); (try replace sl6 := sl6.mono hm'); (try (have hq0 : hm' = Mem.le_refl _ := rfl; clear hq0 hm'))) | ((with_reducible first | apply At.c1 | apply At.c0); exact rfl; exact rfl; exact a2 _ zml; exact ztk; kernel_rfl; rintro v' m' B' hm' ⟨rfl, p6, c6, rfl, sl6⟩; (try replace sl0 := sl0.mono hm'); (try replace sl5 := sl5.mono hm'); (try replace sl6 := sl6.mono hm'); (try (have hq0 : hm' = Mem.le_refl _ := rfl; clear hq0 hm'))) | ((with_reducible first | apply AtM1.callp | apply AtQ.callp | apply At.callp); kernel_rfl; exact rfl; exact rfl; exact a3) | ((with_reducible first | apply AtM1.callp | apply AtQ.callp | apply At.callp); kernel_rfl; exact rfl; exact rfl; exact a4) | ((with_reducible first | apply AtM1.cr | apply AtQ.cr | apply At.cr); exact rfl; exact rfl; exact fun _ hmm => a5 _ (Mem.le_trans zml hmm); exact ztk; kernel_rfl) | ((with_reducible first | apply AtM1.cr | apply AtQ.cr | apply At.cr); exact rfl; exact rfl; exact fun _ hmm => a6 _ (Mem.le_trans zml hmm); exact ztk; kernel_rfl) | ((with_reducible first | apply AtM1.cr | apply AtQ.cr | apply At.cr); exact rfl; exact rfl; exact fun _ hmm => a7 _ (Mem.le_trans zml hmm); exact ztk; kernel_rfl) | ((with_reducible first | apply AtM1.cr | apply AtQ.cr | apply At.cr); exact rfl; exact rfl; exact fun _ hmm => a8 _ (Mem.le_trans zml hmm); exact ztk; kernel_rfl) | ((with_reducible first | apply AtM1.cr | apply AtQ.cr | apply At.cr); exact rfl; exact rfl; exact fun _ hmm => a9 _ (Mem.le_trans zml hmm); exact ztk; kernel_rfl) | ((with_reducible first | apply AtM1.cr | apply AtQ.cr | apply At.cr); exact rfl; exact rfl; exact fun _ hmm => aa _ (Mem.le_trans zml hmm); exact ztk; kernel_rfl) | ((with_reducible first | apply AtM1.cr | apply AtQ.cr | apply At.cr); exact rfl; exact rfl; exact fun _ hmm => sameC _ _ o.length o _ _ o.length o true rfl rfl (by omega) (by omega) (decide_eq_true rfl) (sl5.mono hmm) (sl6.mono hmm); exact ztk; kernel_rfl) | ((with_reducible apply At.box (d := 6)); exact rfl; exact rfl; exact rfl; intro b6) | ((with_reducible apply At.alloc (d := 19)); exact rfl; exact rfl; intro b19) | ((with_reducible apply At.alloc (d := 21)); exact rfl; exact rfl; intro b21) | ((with_reducible apply At.alloc (d := 23)); exact rfl; exact rfl; intro b23) | ((with_reducible apply At.alloc (d := 25)); exact rfl; exact rfl; intro b25) | (refine zsp ?_ ?_ <;> (intro hc; (try simp only [zhcs, reduceCtorEq] at hc); (try (exfalso; first | (first | omega | exact absurd rfl hc | exact hc rfl) | contradiction | omega | exact absurd rfl hc | exact absurd (by decide) hc))))))
  all_goals ((with_reducible apply At.retB1 (B := [])); exact rfl; exact rfl; exact zml; exact zkp; exact ⟨by first | rfl | simp [andL], rfl⟩)
end Qu
namespace QuantTellsCardL
open Go.ChangeShapes Go.WideShapes Go.ChangeAt Go.RowKit
open Go.ChangeMaps (open_string shut_string)
theorem own : ownKnob Tryd.prog.godebug = none := by kernel_rfl
theorem laidOut : laidOutB Tryd.prog = true := by kernel_rfl
set_option maxRecDepth 100000 in
theorem door_met (os : Os) (args : Array Value) : laidMetH Tryd.prog Rows.quantTellsRow.laid ((World.doorLaid Tryd.prog 400 os).forCall (fun _ _ => 0) ⟨#[], args, []⟩).memory :=
  laidMetH_of_parts3 (fuel := 8) (laidMet_of_run' 8 (by kernel_rfl) (by kernel_rfl)) (by kernel_rfl) (by kernel_rfl)
set_option maxRecDepth 100000 in
theorem lifted (os : Os) (started : os.Started) (H : Type) (enc : TypeId × Value → H) :
    ReturnsInHanded {} Tryd.checked os 3 .any (fun w args => (Rows.quantTellsSpec.pre enc Tryd.prog Tryd.f3 [] false w args ∧ laidMetH Tryd.prog Rows.quantTellsRow.laid w) ∧ sizedMet enc Tryd.prog Tryd.f3 (OpenSpec.ofChange Rows.quantTellsSpec) false w args)
      (Rows.quantTellsSpec.post enc Tryd.prog Tryd.f3 false true false false) := by
  refine returnsInHanded_of_change_and (C := Tryd.checked) (X := fun w _ => laidMetH Tryd.prog Rows.quantTellsRow.laid w) (fun _ _ _ hh h => h.of_heap hh) own started (by kernel_rfl) Tryd.func3
    (ChangeSpec.witness_shaped (enc := enc) (C := Tryd.checked) (os := os) (X := fun w _ => laidMetH Tryd.prog Rows.quantTellsRow.laid w) false (World.doorLaid Tryd.prog 400 os) #[.slice none 0 0, .agg #[.int .u64 0, .int .u64 0, .int .u64 0, .int .u64 0], .int .u64 0, .int .u64 0, .int .i64 0] 8 rfl (World.shaped_of_RefB (by kernel_rfl) (by kernel_rfl)) (by kernel_rfl) (by kernel_rfl) (by kernel_rfl) (door_met os _)) ?_
  intro W base args ds gs before hval0 hW hcnd _ hL _
  have hval : ∀ (j : Nat) t v, Tryd.f3.params[j]? = some t → args[j]? = some v → Value.okWide Tryd.prog W .any base t v := hval0
  have hW' := hW
  obtain ⟨p, q, hA0, hV, rfl, hfz, hnd⟩ := hW
  have hA : DataW.TrodAll enc Tryd.prog W 0 (fun _ => true) true Tryd.f3.params.toList args.toList ds p := hA0
  rw [Tryd.params3] at hA hval
  obtain ⟨rfl, rfl⟩ := trodVars_none hV
  have hlt : ∀ x ∈ p, x.block < W.heap.size := fun x hx => hW'.lt x (by simpa using hx)
  have hback := fun (W' : World) (bel : Below W.heap.size W W') => trodAll_below laidOut bel _ _ _ _ (by kernel_rfl) hA hlt
  obtain ⟨v0, vs0, d0, ds0, p0, q0, hargs, rfl, rfl, h0, r0⟩ := trodAll_cons hA
  obtain ⟨v1, vs1, d1, ds1, p1, q1, rfl, rfl, rfl, h1, r1⟩ := trodAll_cons r0
  obtain ⟨v2, vs2, d2, ds2, p2, q2, rfl, rfl, rfl, h2, r2⟩ := trodAll_cons r1
  obtain ⟨v3, vs3, d3, ds3, p3, q3, rfl, rfl, rfl, h3, r3⟩ := trodAll_cons r2
  obtain ⟨v4, vs4, d4, ds4, p4, q4, rfl, rfl, rfl, h4, r4⟩ := trodAll_cons r3
  obtain ⟨rfl, rfl, rfl⟩ := trodAll_nil r4
  obtain rfl : args = #[v0, v1, v2, v3, v4] := by cases args; simp_all
  obtain ⟨p0, c0, a0, rfl, s0, w0⟩ := open_sl_arg (f := Qu.fd) (sz := 4) inferInstance (Qu.In2) Tryd.underlying22 (by rfl) (dec_flat' [.int .u64, .int .u64, .int .u64, .int .u64] (by kernel_rfl) Qu.dec_frac) (okWide_slice Tryd.underlying22 (hval 0 22 v0 rfl rfl)) h0
  obtain ⟨a1, rfl, w1⟩ := open_flat_arg (f := Qu.fd) (φ := Qu.In2) [.int .u64, .int .u64, .int .u64, .int .u64] Tryd.underlying27 (by kernel_rfl) Qu.dec_frac (hval 1 27 v1 rfl rfl) h1
  obtain ⟨a2, rfl, rfl, rfl, w2⟩ := open_int Tryd.underlying23 (hval 2 23 v2 rfl rfl) h2
  obtain ⟨a3, rfl, rfl, rfl, w3⟩ := open_int Tryd.underlying23 (hval 3 23 v3 rfl rfl) h3
  obtain ⟨a4, rfl, rfl, rfl, w4⟩ := open_int Tryd.underlying3 (hval 4 3 v4 rfl rfl) h4
  refine (law_calls (Ct.mono (Qu.tells (m := memOf W) (Qu.tz_of hL (by kernel_rfl)) (Qu.one_of hL (by kernel_rfl)) p0 c0 a0 a1 a2 a3 a4 w0 w1 (bounds_u64 w2) (bounds_u64 w3) (bounds_i64 w4) s0) fun v m' B _ h => h.1)).mono fun e W' ⟨he, bel⟩ => ?_
  subst he
  exact ⟨_, rfl, _, _, _, [], _, [], hW', trodAll_mk1 (shut_bool Tryd.underlying4 _), hback W' bel, rfl, bel.frame _, fun h => by cases h⟩
theorem over : Rows.quantTellsRow.holds Tryd.pinned (OpenSpec.ofChange Rows.quantTellsSpec) :=
  OpenClaim.holds_of_wide 3 Tryd.f3 rfl rfl rfl rfl rfl rfl rfl ⟨rfl, rfl, rfl, rfl, rfl⟩ rfl rfl rfl rfl rfl (by kernel_rfl) Tryd.func3 (by kernel_rfl)
    (of_decide_eq_true (by kernel_rfl)) (by unfold Func.isWrapper; first | (rw [if_pos (by decide +kernel)]; kernel_rfl) | (rw [if_neg (by decide +kernel)]; exact ⟨rfl, rfl⟩))
    (fun os started H enc _ => lifted os started H enc)
theorem proved : Rows.QuantTellsCardSaid :=
  Claim7.holds_tied_plain_at .later [] Rows.quantTellsCard.laidKinds true Rows.quantTellsCard.stood.harness Rows.quantTellsCard.stood.looks
    over (fun _ h => by cases h) (by kernel_rfl) (fun _ h => by cases h) quantTells_row_tie rfl ⟨rfl, rfl⟩ (by kernel_rfl) rfl
    (fun f fn hf hfn => by
      obtain rfl : f = 3 := Option.some.inj ((show Tryd.prog.funcNamed Tryd.f3.name = some 3 by kernel_rfl).symm.trans hf) |>.symm
      obtain rfl : fn = Tryd.f3 := (Option.some.inj (Tryd.func3.symm.trans hfn)).symm
      exact ⟨by kernel_rfl, fun j t ht => by
        rw [Tryd.params3] at ht
        have hm := Array.mem_of_getElem? ht
        have hall : ((Tryd.f3.params).all fun u => !Tryd.prog.wantsStandIn u) = true := by kernel_rfl
        rw [Tryd.params3] at hall
        exact (show Tryd.prog.wantsStandIn t = false by simpa using Array.all_eq_true'.1 hall t hm)⟩)
    (by kernel_rfl)
end QuantTellsCardL
end Go.Proofs.YtmnlmmbfjfgfeaaDoor
