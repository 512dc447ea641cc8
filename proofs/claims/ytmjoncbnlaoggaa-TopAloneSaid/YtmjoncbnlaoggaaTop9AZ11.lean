/- TopAlone: what may be written to a series that lives does not hang on any other one. No condition. -/
import Derived.Test.YtmjoncbnlaoggaaTop9AZ10
/- TopAlone: what may be written to a series that lives does not hang on any other one. No condition. -/
set_option linter.unusedSimpArgs false
set_option linter.unusedVariables false
set_option linter.unusedSectionVars false
set_option maxRecDepth 20000
set_option maxHeartbeats 4000000
namespace Go.Proofs.Ytmjoncbnlaoggaa
open Go Go.J
attribute [local irreducible] At AtQ AtM AtM1 PR Ct Pu Rd Res.blk Res.own Res.ex RVs RV
namespace Ru
open Se Win St
theorem sing_lay {m : Mem} {u : Sta} {p : Option Addr} {c j i : Nat} (ho : u.Ok m) (hi : i < u.pl.l.length) (sl : Sl m Ser.cells 23 p c ((List.replicate u.pl.l.length Ser.z).set j u.pl.l[i]!)) : (sing u p c j u.pl.l[i]!).Ok m where
  sl := sl
  pk := fun x hx => by
    rcases List.mem_or_eq_of_mem_set hx with h | h
    · rw [List.eq_of_mem_replicate h]; exact zok m
    · rw [h]; exact ho.at hi
  np := by rw [sing_len]; exact ho.np
  bn := ho.bn
  bs := ho.bs
abbrev svc (u : Sta) (p : Option Addr) (c : Nat) : Value := .agg #[.int .i64 u.k.r, .int .i64 u.k.a, .int .i64 u.k.b, .int .i64 u.k.d, .int .i64 u.k.x, .int .i64 u.k.y, .int .i64 u.k.w, .int .i64 u.k.c, .int .i64 u.k.g, .int .i64 u.now, .int .i64 u.swept, .slice p u.pl.l.length c]
theorem sing_v (u : Sta) (p : Option Addr) (c j : Nat) (x : Ser) : (sing u p c j x).v = svc u p c := by
  have e : (⟨p, c, (List.replicate u.pl.l.length Ser.z).set j x⟩ : Lst Ser).v = .slice p u.pl.l.length c := by
    show Value.slice p ((List.replicate u.pl.l.length Ser.z).set j x).length c = _
    rw [List.length_set, List.length_replicate]
  show Value.agg #[_, _, _, _, _, _, _, _, _, _, _, (⟨p, c, (List.replicate u.pl.l.length Ser.z).set j x⟩ : Lst Ser).v] = _
  rw [e]
set_option maxRecDepth 100000 in
theorem aloneL {m : Mem} (u : Sta) (l : Lst Lab) (e : Ev) (hu : u.Lay m) (sl1 : Sl m Lb.cells 2 l.p l.c l.l) :
    Ct Try.prog 3 #[u.v, l.v, e.v] m [] (fun v m' B => v = .bool true ∧ B = []) := by
  have hlv := fun (m' : Mem) (h : m.le m') => begins9 (m := m')
  have hsu := fun (m' : Mem) (h : m.le m') => small17 u (hu.mono h)
  have hsl := fun (m' : Mem) (h : m.le m') => Lb.small l.p l.c l.l (sl1.mono h)
  unfold smU at hsu
  by_cases h0 : u.sm
  rotate_left
  · rw [if_neg h0] at hsu
    refine Ct.enterV (by rfl) Try.func3 rfl Try.ntmps3 rfl (fun w0 Rest => ?_)
    (repeat' (first | refine zss ?_ | refine zsM ?_ | ((with_reducible first | apply AtM1.cr | apply AtQ.cr | apply At.cr); exact rfl; exact rfl; exact fun _ hmm => hlv _ hmm; exact ztk; kernel_rfl) | ((with_reducible first | apply AtM1.cr | apply AtQ.cr | apply At.cr); exact rfl; exact rfl; exact fun _ hmm => hsu _ hmm; exact ztk; kernel_rfl) | ((with_reducible first | apply AtM1.cr | apply AtQ.cr | apply At.cr); exact rfl; exact rfl; exact fun _ hmm => hsl _ hmm; exact ztk; kernel_rfl) | ((with_reducible apply At.box (d := 3)); exact rfl; exact rfl; exact rfl; intro b3) | ((with_reducible apply At.box (d := 5)); exact rfl; exact rfl; exact rfl; intro b5) | ((with_reducible apply At.alloc (d := 9)); exact rfl; exact rfl; intro b9) | ((with_reducible apply At.alloc (d := 10)); exact rfl; exact rfl; intro b10) | (refine zsp ?_ ?_ <;> (intro hc; (try simp only [zhcs, reduceCtorEq] at hc); (try (exfalso; first | (first | omega | exact absurd rfl hc | exact absurd hc (by decide)) | contradiction | omega | exact absurd rfl hc | exact absurd (by decide) hc))))))
    all_goals ((with_reducible apply At.retB1 (B := [])); exact rfl; exact rfl; exact zml; exact zkp; exact ⟨rfl, rfl⟩)
  rw [if_pos h0] at hsu
  by_cases h1 : Lb.few l.l
  rotate_left
  · rw [if_neg h1] at hsl
    refine Ct.enterV (by rfl) Try.func3 rfl Try.ntmps3 rfl (fun w0 Rest => ?_)
    (repeat' (first | refine zss ?_ | refine zsM ?_ | ((with_reducible first | apply AtM1.cr | apply AtQ.cr | apply At.cr); exact rfl; exact rfl; exact fun _ hmm => hlv _ hmm; exact ztk; kernel_rfl) | ((with_reducible first | apply AtM1.cr | apply AtQ.cr | apply At.cr); exact rfl; exact rfl; exact fun _ hmm => hsu _ hmm; exact ztk; kernel_rfl) | ((with_reducible first | apply AtM1.cr | apply AtQ.cr | apply At.cr); exact rfl; exact rfl; exact fun _ hmm => hsl _ hmm; exact ztk; kernel_rfl) | ((with_reducible apply At.box (d := 3)); exact rfl; exact rfl; exact rfl; intro b3) | ((with_reducible apply At.box (d := 5)); exact rfl; exact rfl; exact rfl; intro b5) | ((with_reducible apply At.alloc (d := 9)); exact rfl; exact rfl; intro b9) | ((with_reducible apply At.alloc (d := 10)); exact rfl; exact rfl; intro b10) | (refine zsp ?_ ?_ <;> (intro hc; (try simp only [zhcs, reduceCtorEq] at hc); (try (exfalso; first | (first | omega | exact absurd rfl hc | exact absurd hc (by decide)) | contradiction | omega | exact absurd rfl hc | exact absurd (by decide) hc))))))
    all_goals ((with_reducible apply At.retB1 (B := [])); exact rfl; exact rfl; exact zml; exact zkp; exact ⟨rfl, rfl⟩)
  rw [if_pos h1] at hsl
  have ho := hu.ok h0
  have hmid := h1.mid
  have hlen : l.l.length ≤ 1000000000 := Nat.le_trans h1.1 (by decide)
  have kc := fun (m' : Mem) (h : m.le m') => check u (ho.mono h)
  unfold chk at kc
  by_cases h2 : okU u
  rotate_left
  · rw [if_neg h2] at kc
    refine Ct.enterV (by rfl) Try.func3 rfl Try.ntmps3 rfl (fun w0 Rest => ?_)
    (repeat' (first | refine zss ?_ | refine zsM ?_ | ((with_reducible first | apply AtM1.cr | apply AtQ.cr | apply At.cr); exact rfl; exact rfl; exact fun _ hmm => hlv _ hmm; exact ztk; kernel_rfl) | ((with_reducible first | apply AtM1.cr | apply AtQ.cr | apply At.cr); exact rfl; exact rfl; exact fun _ hmm => hsu _ hmm; exact ztk; kernel_rfl) | ((with_reducible first | apply AtM1.cr | apply AtQ.cr | apply At.cr); exact rfl; exact rfl; exact fun _ hmm => hsl _ hmm; exact ztk; kernel_rfl) | ((with_reducible first | apply AtM1.cr | apply AtQ.cr | apply At.cr); exact rfl; exact rfl; exact fun _ hmm => kc _ hmm; exact ztk; kernel_rfl) | ((with_reducible apply At.box (d := 3)); exact rfl; exact rfl; exact rfl; intro b3) | ((with_reducible apply At.box (d := 5)); exact rfl; exact rfl; exact rfl; intro b5) | ((with_reducible apply At.alloc (d := 9)); exact rfl; exact rfl; intro b9) | ((with_reducible apply At.alloc (d := 10)); exact rfl; exact rfl; intro b10) | (refine zsp ?_ ?_ <;> (intro hc; (try simp only [zhcs, reduceCtorEq] at hc); (try (exfalso; first | (first | omega | exact absurd rfl hc | exact absurd hc (by decide)) | contradiction | omega | exact absurd rfl hc | exact absurd (by decide) hc))))))
    all_goals ((with_reducible apply At.retB1 (B := [])); exact rfl; exact rfl; exact zml; exact zkp; exact ⟨rfl, rfl⟩)
  rw [if_pos h2] at kc
  have k6 := fun (m' : Mem) (h : m.le m') => find u l (ho.mono h) hlen (sl1.mono h)
  unfold sel at k6
  rw [if_pos h2.1] at k6
  cases hf : fstO u.pl.l.length (fnd u l.l) with
  | none =>
    rw [hf] at k6
    dsimp only at k6
    refine Ct.enterV (by rfl) Try.func3 rfl Try.ntmps3 rfl (fun w0 Rest => ?_)
    (repeat' (first | refine zss ?_ | refine zsM ?_ | ((with_reducible first | apply AtM1.cr | apply AtQ.cr | apply At.cr); exact rfl; exact rfl; exact fun _ hmm => hlv _ hmm; exact ztk; kernel_rfl) | ((with_reducible first | apply AtM1.cr | apply AtQ.cr | apply At.cr); exact rfl; exact rfl; exact fun _ hmm => hsu _ hmm; exact ztk; kernel_rfl) | ((with_reducible first | apply AtM1.cr | apply AtQ.cr | apply At.cr); exact rfl; exact rfl; exact fun _ hmm => hsl _ hmm; exact ztk; kernel_rfl) | ((with_reducible first | apply AtM1.cr | apply AtQ.cr | apply At.cr); exact rfl; exact rfl; exact fun _ hmm => kc _ hmm; exact ztk; kernel_rfl) | ((with_reducible first | apply AtM1.cr | apply AtQ.cr | apply At.cr); exact rfl; exact rfl; exact fun _ hmm => k6 _ hmm; exact ztk; kernel_rfl) | ((with_reducible apply At.box (d := 3)); exact rfl; exact rfl; exact rfl; intro b3) | ((with_reducible apply At.box (d := 5)); exact rfl; exact rfl; exact rfl; intro b5) | ((with_reducible apply At.alloc (d := 9)); exact rfl; exact rfl; intro b9) | ((with_reducible apply At.alloc (d := 10)); exact rfl; exact rfl; intro b10) | (refine zsp ?_ ?_ <;> (intro hc; (try simp only [zhcs, reduceCtorEq] at hc); (try (exfalso; first | (first | omega | exact absurd rfl hc | exact absurd hc (by decide)) | contradiction | omega | exact absurd rfl hc | exact absurd (by decide) hc))))))
    all_goals ((with_reducible apply At.retB1 (B := [])); exact rfl; exact rfl; exact zml; exact zkp; exact ⟨rfl, rfl⟩)
  | some i =>
    obtain ⟨hi, hq, -⟩ := fstO_spec hf
    rw [hf] at k6
    dsimp only at k6
    unfold fnd at hq
    rw [Bool.and_eq_true, decide_eq_true_eq] at hq
    obtain ⟨hlab, hliv⟩ := hq
    obtain ⟨j, hj⟩ : ∃ j, u.pl.l.length = j + 1 + i := ⟨u.pl.l.length - 1 - i, by omega⟩
    have np := ho.np
    have hw1 : IntKind.wrap .i64 ((u.pl.l.length : Int) - 1) = ((j + i : Nat) : Int) := by rw [hj, IntKind.wrap_i64]; omega
    have hw2 : IntKind.wrap .i64 (((j + i : Nat) : Int) - (i : Int)) = (j : Int) := by rw [IntKind.wrap_i64]; omega
    have sl0 := hu.sl
    refine Ct.enterV (by rfl) Try.func3 rfl Try.ntmps3 rfl (fun w0 Rest => ?_)
    (repeat' (first | ((with_reducible apply At.mixed (id := 12) 10 (.q 0 (.q 1 (.q 2 (.q 3 (.q 4 (.q 5 (.q 6 (.q 7 (.q 8 (.x 9 .done))))))))))); exact rfl; kernel_rfl; kernel_rfl; kernel_rfl) | ((with_reducible apply At.mixed (id := 15) 15 (.q 0 (.q 1 (.q 2 (.q 3 (.q 4 (.q 5 (.q 6 (.q 7 (.q 8 (.q 9 (.q 10 (.q 11 (.q 12 (.q 13 (.x 14 .done)))))))))))))))); exact rfl; kernel_rfl; kernel_rfl; kernel_rfl) | refine zsx ?_ | refine zss ?_ | ((with_reducible apply AtM.bo); exact rfl; exact rfl; exact rfl) | ((first | (with_reducible first | apply At.val | apply AtQ.val) | ((with_reducible first | apply AtM1.valz | apply AtM1.val); exact rfl) | ((with_reducible apply AtM1.val); exact rfl)); (first | exact pr_sub (by rfl) (by rfl) hw1 | exact pr_sub (by rfl) (by rfl) hw2); exact rfl) | refine zsOM ?_ | refine zxOM ?_ | ((with_reducible first | apply AtM1.cr | apply AtQ.cr | apply At.cr); exact rfl; exact rfl; exact fun _ hmm => hlv _ hmm; exact ztk; kernel_rfl) | ((with_reducible first | apply AtM1.cr | apply AtQ.cr | apply At.cr); exact rfl; exact rfl; exact fun _ hmm => hsu _ hmm; exact ztk; kernel_rfl) | ((with_reducible first | apply AtM1.cr | apply AtQ.cr | apply At.cr); exact rfl; exact rfl; exact fun _ hmm => hsl _ hmm; exact ztk; kernel_rfl) | ((with_reducible first | apply AtM1.cr | apply AtQ.cr | apply At.cr); exact rfl; exact rfl; exact fun _ hmm => kc _ hmm; exact ztk; kernel_rfl) | ((with_reducible first | apply AtM1.cr | apply AtQ.cr | apply At.cr); exact rfl; exact rfl; exact fun _ hmm => k6 _ hmm; exact ztk; kernel_rfl) | ((with_reducible apply At.makeN (f := Ser.cells) (cp := u.pl.l.length) (Ser.z)); exact inferInstance; (iterate 4 exact rfl); exact rfl; exact rfl; exact rfl; exact zom; exact rfl; intro bm) | ((with_reducible apply At.storeW (f := Ser.cells) (x' := u.pl.l[i]!)); (case hx => exact rfl); (case hy => exact rfl); (case hv => exact rfl); (case hp => exact (by repeat constructor)); (case hr => exact rfl); (case hf => exact inferInstance); (case hk => exact zom); (case hs => exact rfl); (case hq => exact rfl); (case h1 => exact rfl)) | ((with_reducible apply At.box (d := 3)); exact rfl; exact rfl; exact rfl; intro b3) | ((with_reducible apply At.box (d := 5)); exact rfl; exact rfl; exact rfl; intro b5) | ((with_reducible apply At.alloc (d := 9)); exact rfl; exact rfl; intro b9) | ((with_reducible apply At.alloc (d := 10)); exact rfl; exact rfl; intro b10) | (refine zsp ?_ ?_ <;> (intro hc; (try simp only [zhcs, reduceCtorEq] at hc); (try (exfalso; first | (first | omega | exact absurd rfl hc | exact absurd hc (by decide)) | contradiction | omega | exact absurd rfl hc | exact absurd (by decide) hc))))))
    (refine At.own_freeze inferInstance (by repeat constructor) fun m' hm' sl2 => ?_; (try replace sl0 := sl0.mono hm'); (try replace sl1 := sl1.mono hm'); (try replace sl3 := sl3.mono hm'))
    (refine At.own_freeze inferInstance (by repeat constructor) fun m' hm' sl3 => ?_; (try replace sl0 := sl0.mono hm'); (try replace sl1 := sl1.mono hm'); (try replace sl2 := sl2.mono hm'))
    have hmu : m.le _ := Mem.le_trans (by assumption) hm'
    have o2 := sing_lay (ho.mono hmu) hi sl2
    have o3 := sing_lay (ho.mono hmu) hi sl3
    have k8 := fun (m2 : Mem) h => where_ (m := m2) u l e ((ho.mono hmu).mono h) hlen hmid (sl1.mono h)
    have k9 := fun (m2 : Mem) h => Rd.cast (where_ (m := m2) _ l e (o3.mono h) hlen hmid (sl1.mono h)) (by rw [sing_v]) (by rw [sing_whr h2 hi hi hliv hlab])
    have k10 := fun (m2 : Mem) h => Rd.cast (where_ (m := m2) _ l e (o2.mono h) hlen hmid (sl1.mono h)) (by rw [sing_v]) (by rw [sing_whr h2 hi (show j < u.pl.l.length by omega) hliv hlab])
    have kt1 := fun (m2 : Mem) h => Rd.cast (check (m := m2) _ (o3.mono h)) (by rw [sing_v]) (by rw [show chk _ = 0 from if_pos (sing_ok h2 hi hi hliv)])
    have kt2 := fun (m2 : Mem) h => Rd.cast (check (m := m2) _ (o2.mono h)) (by rw [sing_v]) (by rw [show chk _ = 0 from if_pos (sing_ok h2 hi (show j < u.pl.l.length by omega) hliv)])
    rw [whr_at h2 hf] at k8
    clear kc k6 o2 o3 ho hlv hsu hsl hu h2 hf hmid hlab hliv h0 h1 sl0 sl1 sl2 sl3
    generalize wAt u l.l e u.pl.l[i]! = w at k8 k9 k10
    by_cases hw : w = 0
    · subst hw
      rw [if_pos rfl] at k8 k9 k10
      (repeat' (first | refine zss ?_ | ((first | (with_reducible first | apply At.val | apply AtQ.val)); (first | exact pr_sub (by rfl) (by rfl) hw1 | exact pr_sub (by rfl) (by rfl) hw2); exact rfl) | refine zs0 ?_ | ((with_reducible first | apply AtM1.cr | apply AtQ.cr | apply At.cr); exact rfl; exact rfl; exact fun _ hmm => kc _ zml; exact ztk; kernel_rfl) | ((with_reducible first | apply AtM1.cr | apply AtQ.cr | apply At.cr); exact rfl; exact rfl; exact fun _ hmm => k8 _ zml; exact ztk; kernel_rfl) | ((with_reducible first | apply AtM1.cr | apply AtQ.cr | apply At.cr); exact rfl; exact rfl; exact fun _ hmm => k9 _ zml; exact ztk; kernel_rfl) | ((with_reducible first | apply AtM1.cr | apply AtQ.cr | apply At.cr); exact rfl; exact rfl; exact fun _ hmm => k10 _ zml; exact ztk; kernel_rfl) | ((with_reducible first | apply AtM1.cr | apply AtQ.cr | apply At.cr); exact rfl; exact rfl; exact fun _ hmm => kt1 _ zml; exact ztk; kernel_rfl) | ((with_reducible first | apply AtM1.cr | apply AtQ.cr | apply At.cr); exact rfl; exact rfl; exact fun _ hmm => kt2 _ zml; exact ztk; kernel_rfl) | ((with_reducible apply At.box (d := 3)); exact rfl; exact rfl; exact rfl; intro b3) | ((with_reducible apply At.box (d := 5)); exact rfl; exact rfl; exact rfl; intro b5) | ((with_reducible apply At.alloc (d := 9)); exact rfl; exact rfl; intro b9) | ((with_reducible apply At.alloc (d := 10)); exact rfl; exact rfl; intro b10) | (refine zsp ?_ ?_ <;> (intro hc; (try simp only [zhcs, reduceCtorEq] at hc); (try (exfalso; first | (first | omega | exact absurd rfl hc | exact absurd hc (by decide) | exact hc rfl) | contradiction | omega | exact absurd rfl hc | exact absurd (by decide) hc))))))
      all_goals ((with_reducible apply At.retB1 (B := [])); exact rfl; exact rfl; exact zml; exact zkp; exact ⟨by first | rfl | simp, rfl⟩)
    · rw [if_neg hw] at k8 k9 k10
      (repeat' (first | refine zss ?_ | ((first | (with_reducible first | apply At.val | apply AtQ.val)); (first | exact pr_sub (by rfl) (by rfl) hw1 | exact pr_sub (by rfl) (by rfl) hw2); exact rfl) | refine zs0 ?_ | ((with_reducible first | apply AtM1.cr | apply AtQ.cr | apply At.cr); exact rfl; exact rfl; exact fun _ hmm => kc _ zml; exact ztk; kernel_rfl) | ((with_reducible first | apply AtM1.cr | apply AtQ.cr | apply At.cr); exact rfl; exact rfl; exact fun _ hmm => k8 _ zml; exact ztk; kernel_rfl) | ((with_reducible first | apply AtM1.cr | apply AtQ.cr | apply At.cr); exact rfl; exact rfl; exact fun _ hmm => k9 _ zml; exact ztk; kernel_rfl) | ((with_reducible first | apply AtM1.cr | apply AtQ.cr | apply At.cr); exact rfl; exact rfl; exact fun _ hmm => k10 _ zml; exact ztk; kernel_rfl) | ((with_reducible first | apply AtM1.cr | apply AtQ.cr | apply At.cr); exact rfl; exact rfl; exact fun _ hmm => kt1 _ zml; exact ztk; kernel_rfl) | ((with_reducible first | apply AtM1.cr | apply AtQ.cr | apply At.cr); exact rfl; exact rfl; exact fun _ hmm => kt2 _ zml; exact ztk; kernel_rfl) | ((with_reducible apply At.box (d := 3)); exact rfl; exact rfl; exact rfl; intro b3) | ((with_reducible apply At.box (d := 5)); exact rfl; exact rfl; exact rfl; intro b5) | ((with_reducible apply At.alloc (d := 9)); exact rfl; exact rfl; intro b9) | ((with_reducible apply At.alloc (d := 10)); exact rfl; exact rfl; intro b10) | (refine zsp ?_ ?_ <;> (intro hc; (try simp only [zhcs, reduceCtorEq] at hc); (try (exfalso; first | (first | omega | exact absurd rfl hc | exact absurd hc (by decide) | exact hc rfl | exact absurd hc hw) | contradiction | omega | exact absurd rfl hc | exact absurd (by decide) hc))))))
      all_goals ((with_reducible apply At.retB1 (B := [])); exact rfl; exact rfl; exact zml; exact zkp; exact ⟨by first | rfl | simp, rfl⟩)
end Ru
namespace TopAloneL
open Go.ChangeShapes Go.WideShapes Go.ChangeAt Go.RowKit
open Go.ChangeMaps (open_string shut_string)
theorem own : ownKnob Try.prog.godebug = none := by kernel_rfl
theorem laidOut : laidOutB Try.prog = true := by kernel_rfl
set_option maxRecDepth 100000 in
theorem lifted (os : Os) (started : os.Started) (H : Type) (enc : TypeId × Value → H) :
    ReturnsInHanded {} Try.checked os 3 .any (Rows.topAloneSpec.pre6 enc Try.prog Try.f3 Rows.topAloneRow.domain false) (Rows.topAloneSpec.post enc Try.prog Try.f3 false true false false) := by
  refine returnsInHanded_of_change (C := Try.checked) own started (by kernel_rfl) Try.func3
    (ChangeSpec.witness6 (enc := enc) (C := Try.checked) false ⟨#[], #[.agg #[.int .i64 0, .int .i64 0, .int .i64 0, .int .i64 0, .int .i64 0, .int .i64 0, .int .i64 0, .int .i64 0, .int .i64 0, .int .i64 0, .int .i64 0, .slice none 0 0], .slice none 0 0, .agg #[.int .i64 0, .int .u64 0, .int .i64 0, .bool false]], []⟩ 8 (by kernel_rfl) (by kernel_rfl) (by kernel_rfl) (by kernel_rfl)) ?_
  intro W base args ds gs before hval0 hW hcnd _
  have hval : ∀ (j : Nat) t v, Try.f3.params[j]? = some t → args[j]? = some v → Value.okWide Try.prog W .any base t v := hval0
  have hW' := hW
  obtain ⟨p, q, hA0, hV, rfl, hfz, hnd⟩ := hW
  have hA : DataW.TrodAll enc Try.prog W 0 (fun _ => true) true Try.f3.params.toList args.toList ds p := hA0
  rw [Try.params3] at hA hval
  obtain ⟨rfl, rfl⟩ := trodVars_none hV
  have hlt : ∀ x ∈ p, x.block < W.heap.size := fun x hx => hW'.lt x (by simpa using hx)
  have hback := fun (W' : World) (bel : Below W.heap.size W W') => trodAll_below laidOut bel _ _ _ _ (by kernel_rfl) hA hlt
  obtain ⟨v0, vs0, d0, ds0, p0, q0, hargs, rfl, rfl, h0, r0⟩ := trodAll_cons hA
  obtain ⟨v1, vs1, d1, ds1, p1, q1, rfl, rfl, rfl, h1, r1⟩ := trodAll_cons r0
  obtain ⟨v2, vs2, d2, ds2, p2, q2, rfl, rfl, rfl, h2, r2⟩ := trodAll_cons r1
  obtain ⟨rfl, rfl, rfl⟩ := trodAll_nil r2
  obtain rfl : args = #[v0, v1, v2] := by cases args; simp_all
  obtain ⟨a0, rfl, w0⟩ := open_flat_arg (f := Sta.cells) (φ := Sta.Lay (memOf W)) [.int .i64, .int .i64, .int .i64, .int .i64, .int .i64, .int .i64, .int .i64, .int .i64, .int .i64, .int .i64, .int .i64, .sl 26] Try.underlying28 (by kernel_rfl) St.dec_sta (hval 0 28 v0 rfl rfl) h0
  obtain ⟨p1, c1, a1, rfl, s1, w1⟩ := open_sl_arg (f := Lb.cells) (sz := 2) inferInstance (fun _ => True) Try.underlying29 (by rfl) (dec_flat' [.str, .str] (by kernel_rfl) St.dec_lab) (okWide_slice Try.underlying29 (hval 1 29 v1 rfl rfl)) h1
  obtain ⟨a2, rfl, w2⟩ := open_flat_arg (f := Ev.cells) (φ := Ev.In) [.int .i64, .int .u64, .int .i64, .bool] Try.underlying32 (by kernel_rfl) Ev.dec_ev (hval 2 32 v2 rfl rfl) h2
  refine (law_calls (Ct.mono (Ru.aloneL (m := memOf W) a0 ⟨p1, c1, a1⟩ a2 w0 s1) fun v m' B _ h => h.1)).mono fun e W' ⟨he, bel⟩ => ?_
  subst he
  exact ⟨_, rfl, _, _, _, [], _, [], hW', trodAll_mk1 (shut_bool Try.underlying4 _), hback W' bel, rfl, bel.frame _, fun h => by cases h⟩
theorem over : Rows.topAloneRow.holds Try.pinned (OpenSpec.ofChange Rows.topAloneSpec) :=
  OpenClaim.holds_of_wide 3 Try.f3 rfl rfl rfl rfl rfl rfl rfl ⟨rfl, rfl, rfl, rfl, rfl⟩ rfl rfl rfl rfl rfl (by kernel_rfl) Try.func3 (by kernel_rfl)
    (of_decide_eq_true (by kernel_rfl)) (by unfold Func.isWrapper; first | (rw [if_pos (by decide +kernel)]; kernel_rfl) | (rw [if_neg (by decide +kernel)]; exact ⟨rfl, rfl⟩))
    (fun os started H enc _ => lifted os started H enc)
theorem proved : Rows.TopAloneSaid := over
end TopAloneL
end Go.Proofs.Ytmjoncbnlaoggaa
