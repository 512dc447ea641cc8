/- TopDigits: ten times a number and a digit more has its text with that digit behind it, and is had of that. Conditions: the library's tables read as the row's cells say (the card ties them to the program's text). -/
import Derived.Test.YtnpgnlphdkbfiaaDoorTop1DZ7
/- TopDigits: ten times a number and a digit more has its text with that digit behind it, and is had of that. Conditions: the library's tables read as the row's cells say (the card ties them to the program's text). -/
set_option linter.unusedSimpArgs false
set_option linter.unusedVariables false
set_option linter.unusedSectionVars false
set_option maxRecDepth 20000
set_option maxHeartbeats 4000000
namespace Go.Proofs.YtnpgnlphdkbfiaaDoor
open Go Go.J
attribute [local irreducible] At AtQ AtM AtM1 PR Ct Pu Rd Res.blk Res.own Res.ex RVs RV
namespace Ra
open Wide
def digs : List UInt8 := [48, 49, 50, 51, 52, 53, 54, 55, 56, 57]
theorem digs_at : ∀ k : Fin 10, (digs.take (((k.val : Nat) : Int) + 1).toNat).drop ((k.val : Nat) : Int).toNat = [UInt8.ofNat (48 + k.val)] := by decide
theorem dd_next (a k : Nat) (hk : k < 10) (ha : a ≠ 0) : dd (a * 10 + k) = dd a ++ [UInt8.ofNat (48 + k)] := by
  rw [dd_big (show ¬ a * 10 + k < 10 by omega), show (a * 10 + k) / 10 = a by omega, show (a * 10 + k) % 10 = k by omega]
theorem digitsL {m : Mem} (hz : TZ m) (hT : Tab m) (a : Nat) (n : Int) (ha : In a) (hn : 0 ≤ n ∧ n ≤ 255) :
    Ct Tryd.prog 3 #[wv a, .int .u8 n] m [] (fun v m' B => v = .bool true ∧ B = []) := by
  obtain ⟨e, rfl⟩ : ∃ e : Nat, n = (e : Int) := ⟨n.toNat, by omega⟩
  unfold In at ha
  have hl := fun (m' : Mem) (h : m.le m') => begins1 (hz.mono h) (hT.mono h)
  have f1 : (e : Int).tmod 10 = ((e % 10 : Nat) : Int) := u_rem e 10
  have hk : e % 10 < 10 := Nat.mod_lt _ (by decide)
  clear hn
  generalize e % 10 = k at f1 hk
  have f2 : IntKind.wrap .u64 (k : Int) = (k : Int) := u_inN (by omega)
  have ko := of_ k (by omega)
  have t1 := times a 10 ha (by decide)
  have t2 := add (sV (a * 10)) k (sV_lt _) (by omega)
  have pd : ∀ {n : Nat} {F : Fr} {C : World → Prop} {x y z : Operand} {t : TypeId}, Tryd.prog.underlying t = some .string → ev F x = some (.string (str digs)) → ev F y = some (.int .u64 (k : Int)) → ev F z = some (.int .u64 ((k : Int) + 1)) → PR Tryd.prog n F C (.slice t x (some y) (some z) none) (.string (str [UInt8.ofNat (48 + k)])) := fun ht hx hy hz => by
    rw [← digs_at ⟨k, hk⟩]
    exact pr_str_lh ht hx hy hz (by omega) (by omega) (by show ((k : Int) + 1) ≤ ((10 : Nat) : Int); omega)
  by_cases hb : a * 10 + k < 340282366920938463463374607431768211456
  rotate_left
  · by_cases h1 : a * 10 < 340282366920938463463374607431768211456
    · rw [show sV (a * 10) = a * 10 from if_pos h1, show sE (a * 10) = 0 from if_pos h1] at t1
      rw [show sV (a * 10) = a * 10 from if_pos h1, show sE (a * 10 + k) = 1 from if_neg hb, show sV (a * 10 + k) = 0 from if_neg hb] at t2
      refine Ct.enterV (by rfl) Tryd.func3 rfl Tryd.ntmps3 rfl (fun w0 Rest => ?_)
      (repeat' (first | ((with_reducible apply At.mixed (id := 5) 10 (.q 0 (.q 1 (.q 2 (.q 3 (.q 4 (.q 5 (.q 6 (.l 7 (.x 8 (.q 9 .done))))))))))); exact rfl; kernel_rfl; kernel_rfl; kernel_rfl) | refine zsx ?_ | refine zss ?_ | ((with_reducible apply AtM.bo); exact rfl; exact rfl; exact rfl) | ((first | (with_reducible first | apply At.val | apply AtQ.val) | ((with_reducible first | apply AtM1.valz | apply AtM1.val); exact rfl) | ((with_reducible apply AtM1.val); exact rfl)); (first | exact pr_rem (by rfl) (by rfl) (by decide) f1 | exact pr_conv ⟨_, rfl⟩ (by rfl) (by rfl) f2 | exact zprA); exact rfl) | refine zs0 ?_ | refine zx0 ?_ | ((with_reducible first | apply AtM1.cr | apply AtQ.cr | apply At.cr); exact rfl; exact rfl; exact fun _ hmm => hl _ hmm; exact ztk; kernel_rfl) | ((with_reducible first | apply AtM1.callp | apply AtQ.callp | apply At.callp); kernel_rfl; exact rfl; exact rfl; exact ko) | ((with_reducible first | apply AtM1.callp | apply AtQ.callp | apply At.callp); kernel_rfl; exact rfl; exact rfl; exact t1) | ((with_reducible first | apply AtM1.callp | apply AtQ.callp | apply At.callp); kernel_rfl; exact rfl; exact rfl; exact t2) | ((with_reducible apply At.box (d := 2)); exact rfl; exact rfl; exact rfl; intro b2) | ((with_reducible apply At.alloc (d := 6)); exact rfl; exact rfl; intro b6) | ((with_reducible apply At.alloc (d := 8)); exact rfl; exact rfl; intro b8) | ((with_reducible apply At.alloc (d := 12)); exact rfl; exact rfl; intro b12) | ((with_reducible apply At.alloc (d := 14)); exact rfl; exact rfl; intro b14) | (refine zsp ?_ ?_ <;> (intro hc; (try simp only [zhcs, reduceCtorEq] at hc); (try (exfalso; first | (first | omega | exact absurd hc (by decide)) | contradiction | omega | exact absurd rfl hc | exact absurd (by decide) hc))))))
      all_goals ((with_reducible apply At.retB1 (B := [])); exact rfl; exact rfl; exact zml; exact zkp; exact ⟨by first | rfl | exact congrArg Value.bool (decide_eq_true (by omega)), rfl⟩)
    · rw [show sV (a * 10) = 0 from if_neg h1, show sE (a * 10) = 1 from if_neg h1] at t1
      rw [show sV (a * 10) = 0 from if_neg h1, Nat.zero_add, show sE k = 0 from if_pos (by omega), show sV k = k from if_pos (by omega)] at t2
      refine Ct.enterV (by rfl) Tryd.func3 rfl Tryd.ntmps3 rfl (fun w0 Rest => ?_)
      (repeat' (first | ((with_reducible apply At.mixed (id := 5) 10 (.q 0 (.q 1 (.q 2 (.q 3 (.q 4 (.q 5 (.q 6 (.l 7 (.x 8 (.q 9 .done))))))))))); exact rfl; kernel_rfl; kernel_rfl; kernel_rfl) | refine zsx ?_ | refine zss ?_ | ((with_reducible apply AtM.bo); exact rfl; exact rfl; exact rfl) | ((first | (with_reducible first | apply At.val | apply AtQ.val) | ((with_reducible first | apply AtM1.valz | apply AtM1.val); exact rfl) | ((with_reducible apply AtM1.val); exact rfl)); (first | exact pr_rem (by rfl) (by rfl) (by decide) f1 | exact pr_conv ⟨_, rfl⟩ (by rfl) (by rfl) f2 | exact zprA); exact rfl) | refine zs0 ?_ | refine zx0 ?_ | ((with_reducible first | apply AtM1.cr | apply AtQ.cr | apply At.cr); exact rfl; exact rfl; exact fun _ hmm => hl _ hmm; exact ztk; kernel_rfl) | ((with_reducible first | apply AtM1.callp | apply AtQ.callp | apply At.callp); kernel_rfl; exact rfl; exact rfl; exact ko) | ((with_reducible first | apply AtM1.callp | apply AtQ.callp | apply At.callp); kernel_rfl; exact rfl; exact rfl; exact t1) | ((with_reducible first | apply AtM1.callp | apply AtQ.callp | apply At.callp); kernel_rfl; exact rfl; exact rfl; exact t2) | ((with_reducible apply At.box (d := 2)); exact rfl; exact rfl; exact rfl; intro b2) | ((with_reducible apply At.alloc (d := 6)); exact rfl; exact rfl; intro b6) | ((with_reducible apply At.alloc (d := 8)); exact rfl; exact rfl; intro b8) | ((with_reducible apply At.alloc (d := 12)); exact rfl; exact rfl; intro b12) | ((with_reducible apply At.alloc (d := 14)); exact rfl; exact rfl; intro b14) | (refine zsp ?_ ?_ <;> (intro hc; (try simp only [zhcs, reduceCtorEq] at hc); (try (exfalso; first | (first | omega | exact absurd hc (by decide)) | contradiction | omega | exact absurd rfl hc | exact absurd (by decide) hc))))))
      all_goals ((with_reducible apply At.retB1 (B := [])); exact rfl; exact rfl; exact zml; exact zkp; exact ⟨by first | rfl | exact congrArg Value.bool (decide_eq_true (by omega)), rfl⟩)
  have h1 : a * 10 < 340282366920938463463374607431768211456 := by omega
  rw [show sV (a * 10) = a * 10 from if_pos h1, show sE (a * 10) = 0 from if_pos h1] at t1
  rw [show sV (a * 10) = a * 10 from if_pos h1, show sE (a * 10 + k) = 0 from if_pos hb, show sV (a * 10 + k) = a * 10 + k from if_pos hb] at t2
  have t3 := fun (m' : Mem) (h : m.le m') => text_ a ha (hT.mono h)
  have t4 := fun (m' : Mem) (h : m.le m') => text_ (a * 10 + k) hb (hT.mono h)
  have n1 := dd_len_le 39 a (by decide) (Nat.lt_trans ha (by decide))
  have n2 := dd_len_le 39 (a * 10 + k) (by decide) (Nat.lt_trans hb (by decide))
  have t5 := parse (dd (a * 10 + k)) (by omega)
  rw [pV_ok (pok_dd hb), pE_ok (pok_dd hb), pv_dd] at t5
  have t6 := div (a * 10 + k) 10 hb (by decide) (by decide)
  rw [show (a * 10 + k) / 10 = a by omega, show (a * 10 + k) % 10 = k by omega] at t6
  have a1 : (dd a).length + [UInt8.ofNat (48 + k)].length ≤ 9223372036854775807 := by simp; omega
  by_cases h0 : a = 0
  · subst h0
    rw [show dd (0 * 10 + k) = [UInt8.ofNat (48 + k)] by rw [Nat.zero_mul, Nat.zero_add]; exact dd_small hk] at t4 t5
    generalize 0 * 10 = z at t1 t2 t4 t5 t6
    generalize z + k = w at t2 t4 t5 t6
    generalize [UInt8.ofNat (48 + k)] = D at pd a1 t4 t5
    generalize dd 0 = D0 at t3 a1
    clear h1 hb n2
    refine Ct.enterV (by rfl) Tryd.func3 rfl Tryd.ntmps3 rfl (fun w0 Rest => ?_)
    (repeat' (first | ((with_reducible apply At.mixed (id := 5) 10 (.q 0 (.q 1 (.q 2 (.q 3 (.q 4 (.q 5 (.q 6 (.l 7 (.x 8 (.q 9 .done))))))))))); exact rfl; kernel_rfl; kernel_rfl; kernel_rfl) | refine zsx ?_ | refine zss ?_ | ((with_reducible apply AtM.bo); exact rfl; exact rfl; exact rfl) | ((first | (with_reducible first | apply At.val | apply AtQ.val) | ((with_reducible first | apply AtM1.valz | apply AtM1.val); exact rfl) | ((with_reducible apply AtM1.val); exact rfl)); (first | exact pr_rem (by rfl) (by rfl) (by decide) f1 | exact pr_conv ⟨_, rfl⟩ (by rfl) (by rfl) f2 | exact pd (by rfl) (by rfl) (by rfl) (by rfl) | exact pr_stradd (by rfl) (by rfl) a1 | exact pr_weq (a := 0) (b := 0) (by rfl) (by rfl) | exact zprA); exact rfl) | refine zs0 ?_ | refine zx0 ?_ | ((with_reducible first | apply AtM1.cr | apply AtQ.cr | apply At.cr); exact rfl; exact rfl; exact fun _ hmm => hl _ hmm; exact ztk; kernel_rfl) | ((with_reducible first | apply AtM1.callp | apply AtQ.callp | apply At.callp); kernel_rfl; exact rfl; exact rfl; exact ko) | ((with_reducible first | apply AtM1.callp | apply AtQ.callp | apply At.callp); kernel_rfl; exact rfl; exact rfl; exact t1) | ((with_reducible first | apply AtM1.callp | apply AtQ.callp | apply At.callp); kernel_rfl; exact rfl; exact rfl; exact t2) | ((with_reducible first | apply AtM1.cr | apply AtQ.cr | apply At.cr); exact rfl; exact rfl; exact fun _ hmm => t3 _ hmm; exact ztk; kernel_rfl) | ((with_reducible first | apply AtM1.cr | apply AtQ.cr | apply At.cr); exact rfl; exact rfl; exact fun _ hmm => t4 _ hmm; exact ztk; kernel_rfl) | ((with_reducible first | apply AtM1.callp | apply AtQ.callp | apply At.callp); kernel_rfl; exact rfl; exact rfl; exact t5) | ((with_reducible first | apply AtM1.callp | apply AtQ.callp | apply At.callp); kernel_rfl; exact rfl; exact rfl; exact t6) | ((with_reducible apply At.box (d := 2)); exact rfl; exact rfl; exact rfl; intro b2) | ((with_reducible apply At.alloc (d := 6)); exact rfl; exact rfl; intro b6) | ((with_reducible apply At.alloc (d := 8)); exact rfl; exact rfl; intro b8) | ((with_reducible apply At.alloc (d := 12)); exact rfl; exact rfl; intro b12) | ((with_reducible apply At.alloc (d := 14)); exact rfl; exact rfl; intro b14) | (refine zsp ?_ ?_ <;> (intro hc; (try simp only [zhcs, reduceCtorEq] at hc); (try (exfalso; first | (first | omega | exact absurd rfl hc | exact absurd hc (by decide)) | contradiction | omega | exact absurd rfl hc | exact absurd (by decide) hc))))))
    all_goals ((with_reducible apply At.retB1 (B := [])); exact rfl; exact rfl; exact zml; exact zkp; exact ⟨by first | rfl | simp [andL], rfl⟩)
  · rw [dd_next a k hk h0] at t4 t5
    have e0 : decide (a = 0) = false := decide_eq_false h0
    have pw : ∀ {n' : Nat} {F : Fr} {C : World → Prop} {x y : Operand} {u : TypeId}, ev F x = some (wv a) → ev F y = some (wv 0) → PR Tryd.prog n' F C (.binOp .eql 24 x y u) (.bool false) := fun hx hy => by rw [← e0]; exact pr_weq hx hy
    generalize a * 10 = z at t1 t2 t4 t5 t6
    generalize z + k = w at t2 t4 t5 t6
    generalize [UInt8.ofNat (48 + k)] = D at pd a1 t4 t5
    generalize dd a = D0 at t3 a1 t4 t5
    clear h1 hb n1 n2 e0 ha
    refine Ct.enterV (by rfl) Tryd.func3 rfl Tryd.ntmps3 rfl (fun w0 Rest => ?_)
    (repeat' (first | ((with_reducible apply At.mixed (id := 5) 10 (.q 0 (.q 1 (.q 2 (.q 3 (.q 4 (.q 5 (.q 6 (.l 7 (.x 8 (.q 9 .done))))))))))); exact rfl; kernel_rfl; kernel_rfl; kernel_rfl) | refine zsx ?_ | refine zss ?_ | ((with_reducible apply AtM.bo); exact rfl; exact rfl; exact rfl) | ((first | (with_reducible first | apply At.val | apply AtQ.val) | ((with_reducible first | apply AtM1.valz | apply AtM1.val); exact rfl) | ((with_reducible apply AtM1.val); exact rfl)); (first | exact pr_rem (by rfl) (by rfl) (by decide) f1 | exact pr_conv ⟨_, rfl⟩ (by rfl) (by rfl) f2 | exact pd (by rfl) (by rfl) (by rfl) (by rfl) | exact pr_stradd (by rfl) (by rfl) a1 | exact pw (by rfl) (by rfl) | exact zprA); exact rfl) | refine zs0 ?_ | refine zx0 ?_ | ((with_reducible first | apply AtM1.cr | apply AtQ.cr | apply At.cr); exact rfl; exact rfl; exact fun _ hmm => hl _ hmm; exact ztk; kernel_rfl) | ((with_reducible first | apply AtM1.callp | apply AtQ.callp | apply At.callp); kernel_rfl; exact rfl; exact rfl; exact ko) | ((with_reducible first | apply AtM1.callp | apply AtQ.callp | apply At.callp); kernel_rfl; exact rfl; exact rfl; exact t1) | ((with_reducible first | apply AtM1.callp | apply AtQ.callp | apply At.callp); kernel_rfl; exact rfl; exact rfl; exact t2) | ((with_reducible first | apply AtM1.cr | apply AtQ.cr | apply At.cr); exact rfl; exact rfl; exact fun _ hmm => t3 _ hmm; exact ztk; kernel_rfl) | ((with_reducible first | apply AtM1.cr | apply AtQ.cr | apply At.cr); exact rfl; exact rfl; exact fun _ hmm => t4 _ hmm; exact ztk; kernel_rfl) | ((with_reducible first | apply AtM1.callp | apply AtQ.callp | apply At.callp); kernel_rfl; exact rfl; exact rfl; exact t5) | ((with_reducible first | apply AtM1.callp | apply AtQ.callp | apply At.callp); kernel_rfl; exact rfl; exact rfl; exact t6) | ((with_reducible apply At.box (d := 2)); exact rfl; exact rfl; exact rfl; intro b2) | ((with_reducible apply At.alloc (d := 6)); exact rfl; exact rfl; intro b6) | ((with_reducible apply At.alloc (d := 8)); exact rfl; exact rfl; intro b8) | ((with_reducible apply At.alloc (d := 12)); exact rfl; exact rfl; intro b12) | ((with_reducible apply At.alloc (d := 14)); exact rfl; exact rfl; intro b14) | (refine zsp ?_ ?_ <;> (intro hc; (try simp only [zhcs, reduceCtorEq] at hc); (try (exfalso; first | (first | omega | exact absurd rfl hc | exact absurd hc (by decide)) | contradiction | omega | exact absurd rfl hc | exact absurd (by decide) hc))))))
    all_goals ((with_reducible apply At.retB1 (B := [])); exact rfl; exact rfl; exact zml; exact zkp; exact ⟨by first | rfl | simp [andL], rfl⟩)
end Ra
namespace TopDigitsCardL
open Go.ChangeShapes Go.WideShapes Go.ChangeAt Go.RowKit
open Go.ChangeMaps (open_string shut_string)
theorem own : ownKnob Tryd.prog.godebug = none := by kernel_rfl
theorem laidOut : laidOutB Tryd.prog = true := by kernel_rfl
set_option maxRecDepth 100000 in
theorem door_met (os : Os) (args : Array Value) : laidMetH Tryd.prog Rows.topDigitsRow.laid ((World.doorLaid Tryd.prog 400 os).forCall (fun _ _ => 0) ⟨#[], args, []⟩).memory :=
  laidMetH_of_parts3 (fuel := 8) (laidMet_of_run' 8 (by kernel_rfl) (by kernel_rfl)) (by kernel_rfl) (by kernel_rfl)
set_option maxRecDepth 100000 in
theorem lifted (os : Os) (started : os.Started) (H : Type) (enc : TypeId × Value → H) :
    ReturnsInHanded {} Tryd.checked os 3 .any (fun w args => (Rows.topDigitsSpec.pre enc Tryd.prog Tryd.f3 [] false w args ∧ laidMetH Tryd.prog Rows.topDigitsRow.laid w) ∧ sizedMet enc Tryd.prog Tryd.f3 (OpenSpec.ofChange Rows.topDigitsSpec) false w args)
      (Rows.topDigitsSpec.post enc Tryd.prog Tryd.f3 false true false false) := by
  refine returnsInHanded_of_change_and (C := Tryd.checked) (X := fun w _ => laidMetH Tryd.prog Rows.topDigitsRow.laid w) (fun _ _ _ hh h => h.of_heap hh) own started (by kernel_rfl) Tryd.func3
    (ChangeSpec.witness_shaped (enc := enc) (C := Tryd.checked) (os := os) (X := fun w _ => laidMetH Tryd.prog Rows.topDigitsRow.laid w) false (World.doorLaid Tryd.prog 400 os) #[.agg #[.int .u64 0, .int .u64 0], .int .u8 0] 8 rfl (World.shaped_of_RefB (by kernel_rfl) (by kernel_rfl)) (by kernel_rfl) (by kernel_rfl) (by kernel_rfl) (door_met os _)) ?_
  intro W base args ds gs before hval0 hW hcnd _ hL _
  have hval : ∀ (j : Nat) t v, Tryd.f3.params[j]? = some t → args[j]? = some v → Value.okWide Tryd.prog W .any base t v := hval0
  have hW' := hW
  obtain ⟨p, q, hA0, hV, rfl, hfz, hnd⟩ := hW
  have hA : DataW.TrodAll enc Tryd.prog W 0 (fun _ => true) true Tryd.f3.params.toList args.toList ds p := hA0
  rw [Tryd.params3] at hA hval
  obtain ⟨rfl, rfl⟩ := trodVars_none hV
  have hlt : ∀ x ∈ p, x.block < W.heap.size := fun x hx => hW'.lt x (by simpa using hx)
  have hback := fun (W' : World) (bel : Below W.heap.size W W') => trodAll_below laidOut bel _ _ _ _ (by kernel_rfl) hA hlt
  obtain ⟨v0, vs0, d0, ds0, p0, q0, hargs, rfl, rfl, h0, r0⟩ := trodAll_cons hA
  obtain ⟨v1, vs1, d1, ds1, p1, q1, rfl, rfl, rfl, h1, r1⟩ := trodAll_cons r0
  obtain ⟨rfl, rfl, rfl⟩ := trodAll_nil r1
  obtain rfl : args = #[v0, v1] := by cases args; simp_all
  obtain ⟨a0, rfl, w0⟩ := open_flat_arg (f := Wide.wd) (φ := Ra.In) [.int .u64, .int .u64] Tryd.underlying24 (by kernel_rfl) Ra.dec_wide (hval 0 24 v0 rfl rfl) h0
  obtain ⟨a1, rfl, rfl, rfl, w1⟩ := open_int Tryd.underlying5 (hval 1 5 v1 rfl rfl) h1
  refine (law_calls (Ct.mono (Ra.digitsL (m := memOf W) (Ra.tz_of hL (by kernel_rfl)) (Ra.tab_of hL (by kernel_rfl)) a0 a1 w0 (bounds_u8 w1)) fun v m' B _ h => h.1)).mono fun e W' ⟨he, bel⟩ => ?_
  subst he
  exact ⟨_, rfl, _, _, _, [], _, [], hW', trodAll_mk1 (shut_bool Tryd.underlying4 _), hback W' bel, rfl, bel.frame _, fun h => by cases h⟩
theorem over : Rows.topDigitsRow.holds Tryd.pinned (OpenSpec.ofChange Rows.topDigitsSpec) :=
  OpenClaim.holds_of_wide 3 Tryd.f3 rfl rfl rfl rfl rfl rfl rfl ⟨rfl, rfl, rfl, rfl, rfl⟩ rfl rfl rfl rfl rfl (by kernel_rfl) Tryd.func3 (by kernel_rfl)
    (of_decide_eq_true (by kernel_rfl)) (by unfold Func.isWrapper; first | (rw [if_pos (by decide +kernel)]; kernel_rfl) | (rw [if_neg (by decide +kernel)]; exact ⟨rfl, rfl⟩))
    (fun os started H enc _ => lifted os started H enc)
theorem proved : Rows.TopDigitsCardSaid :=
  Claim7.holds_tied_plain_at .later [] Rows.topDigitsCard.laidKinds true Rows.topDigitsCard.stood.harness Rows.topDigitsCard.stood.looks
    over (fun _ h => by cases h) (by kernel_rfl) (fun _ h => by cases h) topDigits_row_tie rfl ⟨rfl, rfl⟩ (by kernel_rfl) rfl
    (fun f fn hf hfn => by
      obtain rfl : f = 3 := Option.some.inj ((show Tryd.prog.funcNamed Tryd.f3.name = some 3 by kernel_rfl).symm.trans hf) |>.symm
      obtain rfl : fn = Tryd.f3 := (Option.some.inj (Tryd.func3.symm.trans hfn)).symm
      exact ⟨by kernel_rfl, fun j t ht => by
        rw [Tryd.params3] at ht
        have hm := Array.mem_of_getElem? ht
        have hall : ((Tryd.f3.params).all fun u => !Tryd.prog.wantsStandIn u) = true := by kernel_rfl
        rw [Tryd.params3] at hall
        exact (show Tryd.prog.wantsStandIn t = false by simpa using Array.all_eq_true'.1 hall t hm)⟩)
    (by kernel_rfl)
end TopDigitsCardL
end Go.Proofs.YtnpgnlphdkbfiaaDoor
