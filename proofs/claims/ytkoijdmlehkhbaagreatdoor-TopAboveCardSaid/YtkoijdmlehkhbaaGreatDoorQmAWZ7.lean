/- Part 7 of what the law's proof needs: rules of the walk, contracts of functions, plain laws. No condition. -/
import Derived.Test.YtkoijdmlehkhbaaGreatDoorQmAWZ6
set_option linter.unusedSimpArgs false
set_option linter.unusedVariables false
set_option linter.unusedSectionVars false
set_option maxRecDepth 20000
set_option maxHeartbeats 4000000
namespace Go.Proofs.YtkoijdmlehkhbaaGreatDoor
open Go Go.J
attribute [local irreducible] At AtQ AtM AtM1 PR Ct Pu Rd Res.blk Res.own Res.ex RVs RV
namespace So
abbrev cells := Slot.cells
abbrev oS (p : Option Addr) (c : Nat) (l : List Slot) : Res := .own Slot.cells 15 61 p c l
abbrev fnS : Value := .func (.func 211) #[] #[]
def cmpI (x y : Int) : Int := if x < y then -1 else if y < x then 1 else 0
theorem cmpI_lt {x y : Int} : cmpI x y < 0 ↔ x < y := by
  unfold cmpI
  split
  · omega
  · split <;> omega
theorem compare_ (x y : Int) : Pu Tryz.prog 212 #[.int .i64 x, .int .i64 y] (.int .i64 (cmpI x y)) := Pu.intro fun m => by
  have hn : ∀ z : Int, Pu Tryz.prog 226 #[.int .i64 z] (.bool false) := fun z => Pu.intro fun m => by
    refine Ct.enterV (by rfl) Tryz.func226 rfl Tryz.ntmps226 rfl (fun w0 Rest => ?_)
    (repeat' (first | refine zss ?_ | refine zs0 ?_ | (refine zsp ?_ ?_ <;> (intro hc; (try simp only [zhcs, reduceCtorEq] at hc); (try (exfalso; first | contradiction | omega | exact absurd rfl hc | exact absurd (by decide) hc))))))
    all_goals ((with_reducible apply At.retB1 (B := [])); exact rfl; exact rfl; exact zml; exact zkp; exact ⟨by first | rfl | simp, rfl, rfl⟩)
  have n1 := hn x
  have n2 := hn y
  unfold cmpI
  by_cases h : x < y
  · rw [if_pos h]
    refine Ct.enterV (by rfl) Tryz.func212 rfl Tryz.ntmps212 rfl (fun w0 Rest => ?_)
    (repeat' (first | refine zss ?_ | refine zs0 ?_ | ((with_reducible first | apply AtM1.callp | apply AtQ.callp | apply At.callp); kernel_rfl; exact rfl; exact rfl; exact n1) | ((with_reducible first | apply AtM1.callp | apply AtQ.callp | apply At.callp); kernel_rfl; exact rfl; exact rfl; exact n2) | (refine zsp ?_ ?_ <;> (intro hc; (try simp only [zhcs, reduceCtorEq] at hc); (try (exfalso; first | omega | contradiction | omega | exact absurd rfl hc | exact absurd (by decide) hc))))))
    all_goals ((with_reducible apply At.retB1 (B := [])); exact rfl; exact rfl; exact zml; exact zkp; exact ⟨rfl, rfl, rfl⟩)
  · rw [if_neg h]
    by_cases h2 : y < x
    · rw [if_pos h2]
      refine Ct.enterV (by rfl) Tryz.func212 rfl Tryz.ntmps212 rfl (fun w0 Rest => ?_)
      (repeat' (first | refine zss ?_ | refine zs0 ?_ | ((with_reducible first | apply AtM1.callp | apply AtQ.callp | apply At.callp); kernel_rfl; exact rfl; exact rfl; exact n1) | ((with_reducible first | apply AtM1.callp | apply AtQ.callp | apply At.callp); kernel_rfl; exact rfl; exact rfl; exact n2) | (refine zsp ?_ ?_ <;> (intro hc; (try simp only [zhcs, reduceCtorEq] at hc); (try (exfalso; first | omega | contradiction | omega | exact absurd rfl hc | exact absurd (by decide) hc))))))
      all_goals ((with_reducible apply At.retB1 (B := [])); exact rfl; exact rfl; exact zml; exact zkp; exact ⟨rfl, rfl, rfl⟩)
    · rw [if_neg h2]
      refine Ct.enterV (by rfl) Tryz.func212 rfl Tryz.ntmps212 rfl (fun w0 Rest => ?_)
      (repeat' (first | refine zss ?_ | refine zs0 ?_ | ((with_reducible first | apply AtM1.callp | apply AtQ.callp | apply At.callp); kernel_rfl; exact rfl; exact rfl; exact n1) | ((with_reducible first | apply AtM1.callp | apply AtQ.callp | apply At.callp); kernel_rfl; exact rfl; exact rfl; exact n2) | (refine zsp ?_ ?_ <;> (intro hc; (try simp only [zhcs, reduceCtorEq] at hc); (try (exfalso; first | omega | contradiction | omega | exact absurd rfl hc | exact absurd (by decide) hc))))))
      all_goals ((with_reducible apply At.retB1 (B := [])); exact rfl; exact rfl; exact zml; exact zkp; exact ⟨rfl, rfl, rfl⟩)
theorem sortA {m : Mem} (a b : Slot) : Ct Tryz.prog 211 #[a.v, b.v] m [] (fun v m' B => v = .int .i64 (cmpI a.w b.w) ∧ m = m' ∧ B = []) := by
  have k1 := compare_ a.w b.w
  refine Ct.enterV (by rfl) Tryz.func211 rfl Tryz.ntmps211 rfl (fun w0 Rest => ?_)
  (repeat' (first | refine zss ?_ | refine zs0 ?_ | ((with_reducible first | apply AtM1.callp | apply AtQ.callp | apply At.callp); kernel_rfl; exact rfl; exact rfl; exact k1) | ((with_reducible apply At.box (d := 2)); exact rfl; exact rfl; exact rfl; intro b2) | ((with_reducible apply At.box (d := 3)); exact rfl; exact rfl; exact rfl; intro b3) | (refine zsp ?_ ?_ <;> (intro hc; (try simp only [zhcs, reduceCtorEq] at hc); (try (exfalso; first | contradiction | omega | exact absurd rfl hc | exact absurd (by decide) hc))))))
  all_goals ((with_reducible apply At.retB1 (B := [])); exact rfl; exact rfl; exact zml; exact zkp; exact ⟨rfl, rfl, rfl⟩)
/-- a row that is such -/
def PostR (p : Option Addr) (c : Nat) (Φ : List Slot → Prop) : Value → Mem → Mem → List Res → Prop := fun v m m' B => v = .tuple #[] ∧ m = m' ∧ ∃ L : List Slot, Φ L ∧ B = [oS p c L]
structure NS where
  (i : Nat) (L : List Slot)
set_option maxHeartbeats 1000000 in
theorem insG {m : Mem} (p : Option Addr) (c a b n : Nat) (l : List Slot) (hn : l.length = n) (hb : b ≤ n) (ha : a ≤ n) (hl : n ≤ 1000000) :
    Ct Tryz.prog 228 #[.slice p n c, .int .i64 (a : Int), .int .i64 (b : Int), fnS] m [oS p c l] (fun v m' B => PostR p c (fun L => Mv a b l L ∧ Srt Slot.w a b L) v m m' B) := by
  refine Ct.enterV (by rfl) Tryz.func228 rfl Tryz.ntmps228 rfl (fun w0 Rest => ?_)
  (repeat' (first | refine zss ?_ | refine zsO ?_ | (refine zsp ?_ ?_ <;> (intro hc; (try simp only [zhcs, reduceCtorEq] at hc); (try (exfalso; first | contradiction | omega | exact absurd rfl hc | exact absurd (by decide) hc))))))
  (refine At.loopk (σ := NS) [0, 1, 2, 3] (fun s F0 => (8, .int .i64 (s.i : Int)) :: F0) (fun s => m) (fun s => oS p c s.L :: Rest) (fun s => a + 1 ≤ s.i ∧ Mv a b l s.L ∧ Srt Slot.w a s.i s.L) (fun s => n - s.i) ⟨a + 1, l⟩ (by rfl) ?_ zsubs zml zente ?_)
  · exact ⟨Nat.le_refl _, Mv.refl _ _ _, fun i j h1 h2 h3 => by dsimp only at h3; omega⟩
  rintro ⟨i, L⟩ ⟨h1, hM, hS⟩
  dsimp only at h1 hM hS ⊢
  have h2 : L.length = n := hM.len.trans hn
  by_cases h : i < b
  · (repeat' (first | refine zss ?_ | refine zsO ?_ | (refine zsp ?_ ?_ <;> (intro hc; (try simp only [zhcs, reduceCtorEq] at hc); (try (exfalso; first | omega | contradiction | omega | exact absurd rfl hc | exact absurd (by decide) hc))))))
    (refine At.loopk (σ := NS) [0, 1, 2, 3, 8] (fun s F0 => (9, .int .i64 (s.i : Int)) :: F0) (fun s => m) (fun s => oS p c s.L :: Rest) (fun s => a ≤ s.i ∧ s.i ≤ i ∧ Mv a b l s.L ∧ (∀ q, s.L[q]! = shr s.i i (fun q => L[q]!) q) ∧ (s.i < i → L[i]!.w < L[s.i]!.w)) (fun s => s.i) ⟨i, L⟩ (by rfl) ?_ zsubs zml zente ?_)
    · exact ⟨by dsimp only; omega, Nat.le_refl _, hM, fun q => (shr_zero i (fun q => L[q]!) q).symm, fun h => absurd h (Nat.lt_irrefl _)⟩
    rintro ⟨j, W⟩ ⟨g0, g1, gM, gW, gL⟩
    dsimp only at g0 g1 gM gW gL ⊢
    have g2 : W.length = n := gM.len.trans hn
    by_cases hj : a < j
    · obtain ⟨k, rfl⟩ : ∃ k, j = k + 1 := ⟨j - 1, by omega⟩
      have hw : IntKind.wrap .i64 (((k + 1 : Nat) : Int) - 1) = (k : Int) := by rw [show ((k + 1 : Nat) : Int) - 1 = (k : Int) by omega]; exact IntWalk.i64_in _ (by omega)
      have hcm := fun (m : Mem) => sortA (m := m) (W[k + 1]!) (W[k]!)
      have eW1 : W[k + 1]! = L[i]! := by rw [gW]; unfold shr; rw [if_pos rfl]
      have eW0 : W[k]! = L[k]! := by rw [gW]; unfold shr; rw [if_neg (by omega), if_neg (by omega)]
      by_cases e : cmpI W[k + 1]!.w W[k]!.w < 0
      · have hlt := cmpI_lt.1 e
        rw [eW1, eW0] at hlt
        have hN : Mv a b l (swp W (k + 1) k) := gM.trans (Mv.swp (by omega) (by omega) (by omega))
        have hQ : ∀ q, (swp W (k + 1) k)[q]! = shr k i (fun q => L[q]!) q := fun q => by
          rw [swp_get (by omega) (by omega), shr_step (k := k) _ g1, gW, gW, gW]
        generalize cmpI W[k + 1]!.w W[k]!.w = r at hcm e
        clear gW gM hM hS eW0 eW1
        unfold swp at hN hQ
        (repeat' (first | ((with_reducible apply At.mixed (id := 4) 17 (.q 0 (.q 1 (.q 2 (.q 3 (.q 4 (.q 5 (.q 6 (.q 7 (.q 8 (.q 9 (.q 10 (.q 11 (.q 12 (.q 13 (.x 14 (.q 15 (.q 16 .done)))))))))))))))))); exact rfl; kernel_rfl; kernel_rfl; kernel_rfl) | ((with_reducible apply At.mixed (id := 6) 18 (.q 0 (.q 1 (.q 2 (.q 3 (.q 4 (.q 5 (.q 6 (.q 7 (.q 8 (.q 9 (.q 10 (.q 11 (.q 12 (.q 13 (.q 14 (.x 15 (.q 16 (.x 17 .done))))))))))))))))))); exact rfl; kernel_rfl; kernel_rfl; kernel_rfl) | refine zsx ?_ | refine zss ?_ | ((with_reducible apply AtM.bo); exact rfl; exact rfl; exact rfl) | ((first | (with_reducible first | apply At.val | apply AtQ.val) | ((with_reducible first | apply AtM1.valz | apply AtM1.val); exact rfl) | ((with_reducible apply AtM1.val); exact rfl)); (exact pr_sub (by rfl) (by rfl) hw); exact rfl) | refine zsO ?_ | refine zxO ?_ | ((with_reducible apply At.callf); exact rfl; kernel_rfl; exact rfl; exact rfl; exact hcm _; exact ztk; rintro v' m' B' hm' ⟨rfl, rfl, rfl⟩; skip) | ((with_reducible apply At.storeW (f := cells) (x' := (W[k]!))); (case hx => exact rfl); (case hy => exact rfl); (case hv => exact rfl); (case hp => exact (by repeat constructor)); (case hr => exact rfl); (case hf => exact inferInstance); (case hk => exact zom); (case hs => exact rfl); (case hq => exact rfl); (case h1 => exact rfl)) | ((with_reducible apply At.storeW (f := cells) (x' := (W[k + 1]!))); (case hx => exact rfl); (case hy => exact rfl); (case hv => exact rfl); (case hp => exact (by repeat constructor)); (case hr => exact rfl); (case hf => exact inferInstance); (case hk => exact zom); (case hs => exact rfl); (case hq => exact rfl); (case h1 => exact rfl)) | (refine zsp ?_ ?_ <;> (intro hc; (try simp only [zhcs, reduceCtorEq] at hc); (try (exfalso; first | omega | contradiction | omega | exact absurd rfl hc | exact absurd (by decide) hc))))))
        all_goals ((with_reducible refine At.reachk ((⟨k, (W.set (k + 1) (W[k]!)).set k (W[k + 1]!)⟩ : NS)) ?_ ?_ ?_ ?_); exact zsubs; exact zml; exact zente; exact ⟨⟨by dsimp only; omega, by dsimp only; omega, hN, hQ, fun _ => hlt⟩, by dsimp only; omega⟩)
      · have hge : L[k]!.w ≤ L[i]!.w := by
          have : ¬ W[k + 1]!.w < W[k]!.w := fun h => e (cmpI_lt.2 h)
          rw [eW1, eW0] at this
          omega
        have hsrt : Srt Slot.w a (i + 1) W := shr_srt (i := k + 1) (m := i) (by omega) g1 gW hS (fun _ => hge) gL
        generalize cmpI W[k + 1]!.w W[k]!.w = r at hcm e
        clear gW hM hS eW0 eW1 gL
        (repeat' (first | ((with_reducible apply At.mixed (id := 4) 17 (.q 0 (.q 1 (.q 2 (.q 3 (.q 4 (.q 5 (.q 6 (.q 7 (.q 8 (.q 9 (.q 10 (.q 11 (.q 12 (.q 13 (.x 14 (.q 15 (.q 16 .done)))))))))))))))))); exact rfl; kernel_rfl; kernel_rfl; kernel_rfl) | ((with_reducible apply At.mixed (id := 6) 18 (.q 0 (.q 1 (.q 2 (.q 3 (.q 4 (.q 5 (.q 6 (.q 7 (.q 8 (.q 9 (.q 10 (.q 11 (.q 12 (.q 13 (.q 14 (.x 15 (.q 16 (.x 17 .done))))))))))))))))))); exact rfl; kernel_rfl; kernel_rfl; kernel_rfl) | refine zsx ?_ | refine zss ?_ | ((with_reducible apply AtM.bo); exact rfl; exact rfl; exact rfl) | ((first | (with_reducible first | apply At.val | apply AtQ.val) | ((with_reducible first | apply AtM1.valz | apply AtM1.val); exact rfl) | ((with_reducible apply AtM1.val); exact rfl)); (exact pr_sub (by rfl) (by rfl) hw); exact rfl) | refine zsO ?_ | refine zxO ?_ | ((with_reducible apply At.callf); exact rfl; kernel_rfl; exact rfl; exact rfl; exact hcm _; exact ztk; rintro v' m' B' hm' ⟨rfl, rfl, rfl⟩; skip) | (refine zsp ?_ ?_ <;> (intro hc; (try simp only [zhcs, reduceCtorEq] at hc); (try (exfalso; first | omega | contradiction | omega | exact absurd rfl hc | exact absurd (by decide) hc))))))
        all_goals ((with_reducible refine At.reachk ((⟨i + 1, W⟩ : NS)) ?_ ?_ ?_ ?_); exact zsubs; exact zml; exact zente; exact ⟨⟨by dsimp only; omega, gM, hsrt⟩, by dsimp only; omega⟩)
    · have hja : j = a := by omega
      have hsrt : Srt Slot.w a (i + 1) W := shr_srt (i := j) (m := i) (by omega) g1 gW hS (fun h => absurd h (by omega)) gL
      clear gW hM hS gL
      (repeat' (first | ((with_reducible apply At.mixed (id := 4) 17 (.q 0 (.q 1 (.q 2 (.q 3 (.q 4 (.q 5 (.q 6 (.q 7 (.q 8 (.q 9 (.q 10 (.q 11 (.q 12 (.q 13 (.x 14 (.q 15 (.q 16 .done)))))))))))))))))); exact rfl; kernel_rfl; kernel_rfl; kernel_rfl) | ((with_reducible apply At.mixed (id := 6) 18 (.q 0 (.q 1 (.q 2 (.q 3 (.q 4 (.q 5 (.q 6 (.q 7 (.q 8 (.q 9 (.q 10 (.q 11 (.q 12 (.q 13 (.q 14 (.x 15 (.q 16 (.x 17 .done))))))))))))))))))); exact rfl; kernel_rfl; kernel_rfl; kernel_rfl) | refine zsx ?_ | refine zss ?_ | ((with_reducible apply AtM.bo); exact rfl; exact rfl; exact rfl) | refine zsO ?_ | refine zxO ?_ | (refine zsp ?_ ?_ <;> (intro hc; (try simp only [zhcs, reduceCtorEq] at hc); (try (exfalso; first | omega | contradiction | omega | exact absurd rfl hc | exact absurd (by decide) hc))))))
      all_goals ((with_reducible refine At.reachk ((⟨i + 1, W⟩ : NS)) ?_ ?_ ?_ ?_); exact zsubs; exact zml; exact zente; exact ⟨⟨by dsimp only; omega, gM, hsrt⟩, by dsimp only; omega⟩)
  · have hsrt : Srt Slot.w a b L := fun x y g1 g2 g3 => hS x y g1 g2 (by omega)
    clear hS
    (repeat' (first | refine zss ?_ | refine zsO ?_ | (refine zsp ?_ ?_ <;> (intro hc; (try simp only [zhcs, reduceCtorEq] at hc); (try (exfalso; first | omega | contradiction | omega | exact absurd rfl hc | exact absurd (by decide) hc))))))
    all_goals ((first | (with_reducible apply At.retB0 (B := [oS p c L])) | (with_reducible apply At.retR0 (B := [oS p c L]))); exact rfl; exact zml; exact zkp; exact ⟨rfl, rfl, _, ⟨hM, hsrt⟩, rfl⟩)
theorem swapR {m : Mem} (p : Option Addr) (c a b k n : Nat) (l : List Slot) (hn : l.length = n) (ha : a + k ≤ b) (hb : b + k ≤ n) (hl : n ≤ 1000000) :
    Ct Tryz.prog 231 #[.slice p n c, .int .i64 (a : Int), .int .i64 (b : Int), .int .i64 (k : Int), fnS] m [oS p c l] (fun v m' B => PostR p c (fun L => L.length = n ∧ L.Perm l ∧ ∀ q, L[q]! = sw a b k (fun q => l[q]!) q) v m m' B) := by
  refine Ct.enterV (by rfl) Tryz.func231 rfl Tryz.ntmps231 rfl (fun w0 Rest => ?_)
  (repeat' (first | refine zss ?_ | refine zsO ?_ | (refine zsp ?_ ?_ <;> (intro hc; (try simp only [zhcs, reduceCtorEq] at hc); (try (exfalso; first | contradiction | omega | exact absurd rfl hc | exact absurd (by decide) hc))))))
  (refine At.loopk (σ := NS) [0, 1, 2, 3] (fun s F0 => (10, .int .i64 (s.i : Int)) :: F0) (fun s => m) (fun s => oS p c s.L :: Rest) (fun s => s.i ≤ k ∧ s.L.length = n ∧ s.L.Perm l ∧ ∀ q, s.L[q]! = sw a b s.i (fun q => l[q]!) q) (fun s => k - s.i) ⟨0, l⟩ (by rfl) ?_ zsubs zml zente ?_)
  · exact ⟨Nat.zero_le _, hn, List.Perm.refl _, fun q => (sw_zero a b _ q).symm⟩
  rintro ⟨i, W⟩ ⟨h1, h2, hP, hW⟩
  dsimp only at h1 h2 hP hW ⊢
  by_cases h : i < k
  · have wa : IntKind.wrap .i64 ((a : Int) + (i : Int)) = ((a + i : Nat) : Int) := by rw [← Int.natCast_add]; exact IntWalk.i64_in _ (by omega)
    have wb : IntKind.wrap .i64 ((b : Int) + (i : Int)) = ((b + i : Nat) : Int) := by rw [← Int.natCast_add]; exact IntWalk.i64_in _ (by omega)
    have hL : (swp W (a + i) (b + i)).length = n := (swp_len W _ _).trans h2
    have hP2 : (swp W (a + i) (b + i)).Perm l := (swp_perm (by omega) (by omega)).trans hP
    have hQ : ∀ q, (swp W (a + i) (b + i))[q]! = sw a b (i + 1) (fun q => l[q]!) q := fun q => by
      rw [swp_get (by omega) (by omega), sw_step _ (by omega), hW, hW, hW]
    clear hW hP
    unfold swp at hL hP2 hQ
    (repeat' (first | ((with_reducible apply At.mixed (id := 3) 24 (.q 0 (.q 1 (.q 2 (.q 3 (.q 4 (.q 5 (.q 6 (.q 7 (.q 8 (.q 9 (.q 10 (.q 11 (.q 12 (.q 13 (.q 14 (.q 15 (.q 16 (.q 17 (.q 18 (.q 19 (.q 20 (.x 21 (.q 22 (.x 23 .done))))))))))))))))))))))))); exact rfl; kernel_rfl; kernel_rfl; kernel_rfl) | refine zsx ?_ | refine zss ?_ | ((with_reducible apply AtM.bo); exact rfl; exact rfl; exact rfl) | ((first | (with_reducible first | apply At.val | apply AtQ.val) | ((with_reducible first | apply AtM1.valz | apply AtM1.val); exact rfl) | ((with_reducible apply AtM1.val); exact rfl)); (first | exact pr_add (by rfl) (by rfl) wa | exact pr_add (by rfl) (by rfl) wb); exact rfl) | refine zsO ?_ | refine zxO ?_ | ((with_reducible apply At.storeW (f := cells) (x' := (W[b + i]!))); (case hx => exact rfl); (case hy => exact rfl); (case hv => exact rfl); (case hp => exact (by repeat constructor)); (case hr => exact rfl); (case hf => exact inferInstance); (case hk => exact zom); (case hs => exact rfl); (case hq => exact rfl); (case h1 => exact rfl)) | ((with_reducible apply At.storeW (f := cells) (x' := (W[a + i]!))); (case hx => exact rfl); (case hy => exact rfl); (case hv => exact rfl); (case hp => exact (by repeat constructor)); (case hr => exact rfl); (case hf => exact inferInstance); (case hk => exact zom); (case hs => exact rfl); (case hq => exact rfl); (case h1 => exact rfl)) | (refine zsp ?_ ?_ <;> (intro hc; (try simp only [zhcs, reduceCtorEq] at hc); (try (exfalso; first | omega | contradiction | omega | exact absurd rfl hc | exact absurd (by decide) hc))))))
    all_goals ((with_reducible refine At.reachk ((⟨i + 1, (W.set (a + i) (W[b + i]!)).set (b + i) (W[a + i]!)⟩ : NS)) ?_ ?_ ?_ ?_); exact zsubs; exact zml; exact zente; exact ⟨⟨h, hL, hP2, hQ⟩, by dsimp only; omega⟩)
  · have e : i = k := by omega
    subst e
    (repeat' (first | refine zss ?_ | refine zsO ?_ | (refine zsp ?_ ?_ <;> (intro hc; (try simp only [zhcs, reduceCtorEq] at hc); (try (exfalso; first | omega | contradiction | omega | exact absurd rfl hc | exact absurd (by decide) hc))))))
    all_goals ((first | (with_reducible apply At.retB0 (B := [oS p c W])) | (with_reducible apply At.retR0 (B := [oS p c W]))); exact rfl; exact zml; exact zkp; exact ⟨rfl, rfl, _, ⟨h2, hP, hW⟩, rfl⟩)
structure RoS where
  (i j : Nat) (L : List Slot)
theorem rotR {m : Mem} (p : Option Addr) (c a k b n : Nat) (l : List Slot) (hn : l.length = n) (h1 : a < k) (h2 : k < b) (hb : b ≤ n) (hl : n ≤ 1000000) :
    Ct Tryz.prog 230 #[.slice p n c, .int .i64 (a : Int), .int .i64 (k : Int), .int .i64 (b : Int), fnS] m [oS p c l] (fun v m' B => PostR p c (fun L => L.length = n ∧ L.Perm l ∧ ∀ q, L[q]! = rot a k b (fun q => l[q]!) q) v m m' B) := by
  have wi : IntKind.wrap .i64 ((k : Int) - (a : Int)) = ((k - a : Nat) : Int) := by rw [show (k : Int) - (a : Int) = ((k - a : Nat) : Int) by omega]; exact IntWalk.i64_in _ (by omega)
  have wj : IntKind.wrap .i64 ((b : Int) - (k : Int)) = ((b - k : Nat) : Int) := by rw [show (b : Int) - (k : Int) = ((b - k : Nat) : Int) by omega]; exact IntWalk.i64_in _ (by omega)
  refine Ct.enterV (by rfl) Tryz.func230 rfl Tryz.ntmps230 rfl (fun w0 Rest => ?_)
  (repeat' (first | refine zss ?_ | ((first | (with_reducible first | apply At.val | apply AtQ.val)); (first | exact pr_sub (by rfl) (by rfl) wi | exact pr_sub (by rfl) (by rfl) wj); exact rfl) | refine zsO ?_ | (refine zsp ?_ ?_ <;> (intro hc; (try simp only [zhcs, reduceCtorEq] at hc); (try (exfalso; first | contradiction | omega | exact absurd rfl hc | exact absurd (by decide) hc))))))
  (refine At.loopk (σ := RoS) [0, 2, 4] (fun s F0 => (10, .int .i64 (s.i : Int)) :: (11, .int .i64 (s.j : Int)) :: F0) (fun s => m) (fun s => oS p c s.L :: Rest) (fun s => 1 ≤ s.i ∧ s.i ≤ k ∧ 1 ≤ s.j ∧ k + s.j ≤ n ∧ s.L.length = n ∧ s.L.Perm l ∧ ∀ q, rot (k - s.i) k (k + s.j) (fun q => s.L[q]!) q = rot a k b (fun q => l[q]!) q) (fun s => s.i + s.j) ⟨k - a, b - k, l⟩ (by rfl) ?_ zsubs zml zente ?_)
  · exact ⟨by show 1 ≤ k - a; omega, by show k - a ≤ k; omega, by show 1 ≤ b - k; omega, by show k + (b - k) ≤ n; omega, hn, List.Perm.refl _, fun q => by dsimp only; rw [show k - (k - a) = a by omega, show k + (b - k) = b by omega]⟩
  rintro ⟨i, j, W⟩ ⟨g1, g2, g3, g4, g5, gP, gR⟩
  dsimp only at g1 g2 g3 g4 g5 gP gR ⊢
  have w1 : IntKind.wrap .i64 ((k : Int) - (i : Int)) = ((k - i : Nat) : Int) := by rw [show (k : Int) - (i : Int) = ((k - i : Nat) : Int) by omega]; exact IntWalk.i64_in _ (by omega)
  by_cases e : i = j
  · have s1 := fun (m : Mem) => swapR (m := m) p c (k - i) k i n W g5 (by omega) (by omega) hl
    have fin : ∀ W2 : List Slot, (W2.length = n ∧ W2.Perm W ∧ ∀ q, W2[q]! = sw (k - i) k i (fun q => W[q]!) q) → W2.length = n ∧ W2.Perm l ∧ ∀ q, W2[q]! = rot a k b (fun q => l[q]!) q := fun W2 ⟨f1, f2, f3⟩ => ⟨f1, f2.trans gP, fun q => by rw [f3, ← gR, ← e, rot_end _ g2]⟩
    clear gR gP
    (repeat' (first | refine zss ?_ | ((first | (with_reducible first | apply At.val | apply AtQ.val)); (exact pr_sub (by rfl) (by rfl) w1); exact rfl) | refine zsO ?_ | ((with_reducible first | apply At.c1 | apply At.c0); exact rfl; exact rfl; exact s1 _; exact ztk; kernel_rfl; rintro v' m' B' hm' ⟨rfl, rfl, W2, hW2, rfl⟩; skip; (try (have hq0 : hm' = Mem.le_refl _ := rfl; clear hq0 hm'))) | (refine zsp ?_ ?_ <;> (intro hc; (try simp only [zhcs, reduceCtorEq] at hc); (try (exfalso; first | omega | contradiction | omega | exact absurd rfl hc | exact absurd (by decide) hc))))))
    all_goals ((first | (with_reducible apply At.retB0 (B := [oS p c W2])) | (with_reducible apply At.retR0 (B := [oS p c W2]))); exact rfl; exact zml; exact zkp; exact ⟨rfl, rfl, _, fin W2 hW2, rfl⟩)
  by_cases e2 : j < i
  · have s1 := fun (m : Mem) => swapR (m := m) p c (k - i) k j n W g5 (by omega) (by omega) hl
    have w2 : IntKind.wrap .i64 ((i : Int) - (j : Int)) = ((i - j : Nat) : Int) := by rw [show (i : Int) - (j : Int) = ((i - j : Nat) : Int) by omega]; exact IntWalk.i64_in _ (by omega)
    have fin : ∀ W2 : List Slot, (W2.length = n ∧ W2.Perm W ∧ ∀ q, W2[q]! = sw (k - i) k j (fun q => W[q]!) q) → W2.Perm l ∧ ∀ q, rot (k - (i - j)) k (k + j) (fun q => W2[q]!) q = rot a k b (fun q => l[q]!) q := fun W2 ⟨f1, f2, f3⟩ => ⟨f2.trans gP, fun q => by rw [show (fun q => W2[q]!) = sw (k - i) k j (fun q => W[q]!) from funext f3, rot_left _ g2 e2, gR]⟩
    clear gR gP
    (repeat' (first | refine zss ?_ | ((first | (with_reducible first | apply At.val | apply AtQ.val)); (first | exact pr_sub (by rfl) (by rfl) w1 | exact pr_sub (by rfl) (by rfl) w2); exact rfl) | refine zsO ?_ | ((with_reducible first | apply At.c1 | apply At.c0); exact rfl; exact rfl; exact s1 _; exact ztk; kernel_rfl; rintro v' m' B' hm' ⟨rfl, rfl, W2, hW2, rfl⟩; skip; (try (have hq0 : hm' = Mem.le_refl _ := rfl; clear hq0 hm'))) | (refine zsp ?_ ?_ <;> (intro hc; (try simp only [zhcs, reduceCtorEq] at hc); (try (exfalso; first | omega | contradiction | omega | exact absurd rfl hc | exact absurd (by decide) hc))))))
    all_goals ((with_reducible refine At.reachk ((⟨i - j, j, W2⟩ : RoS)) ?_ ?_ ?_ ?_); exact zsubs; exact zml; exact zente; exact ⟨⟨by show 1 ≤ i - j; omega, by show i - j ≤ k; omega, g3, g4, hW2.1, fin W2 hW2⟩, by show i - j + j < i + j; omega⟩)
  · have s1 := fun (m : Mem) => swapR (m := m) p c (k - i) (k + j - i) i n W g5 (by omega) (by omega) hl
    have w2 : IntKind.wrap .i64 ((j : Int) - (i : Int)) = ((j - i : Nat) : Int) := by rw [show (j : Int) - (i : Int) = ((j - i : Nat) : Int) by omega]; exact IntWalk.i64_in _ (by omega)
    have w3 : IntKind.wrap .i64 ((k : Int) + (j : Int)) = ((k + j : Nat) : Int) := by rw [← Int.natCast_add]; exact IntWalk.i64_in _ (by omega)
    have w4 : IntKind.wrap .i64 (((k + j : Nat) : Int) - (i : Int)) = ((k + j - i : Nat) : Int) := by rw [show ((k + j : Nat) : Int) - (i : Int) = ((k + j - i : Nat) : Int) by omega]; exact IntWalk.i64_in _ (by omega)
    have fin : ∀ W2 : List Slot, (W2.length = n ∧ W2.Perm W ∧ ∀ q, W2[q]! = sw (k - i) (k + j - i) i (fun q => W[q]!) q) → W2.Perm l ∧ ∀ q, rot (k - i) k (k + (j - i)) (fun q => W2[q]!) q = rot a k b (fun q => l[q]!) q := fun W2 ⟨f1, f2, f3⟩ => ⟨f2.trans gP, fun q => by rw [show (fun q => W2[q]!) = sw (k - i) (k + j - i) i (fun q => W[q]!) from funext f3, rot_right _ g2 (by omega), gR]⟩
    clear gR gP
    (repeat' (first | refine zss ?_ | ((first | (with_reducible first | apply At.val | apply AtQ.val)); (first | exact pr_sub (by rfl) (by rfl) w1 | exact pr_sub (by rfl) (by rfl) w2 | exact pr_add (by rfl) (by rfl) w3 | exact pr_sub (by rfl) (by rfl) w4); exact rfl) | refine zsO ?_ | ((with_reducible first | apply At.c1 | apply At.c0); exact rfl; exact rfl; exact s1 _; exact ztk; kernel_rfl; rintro v' m' B' hm' ⟨rfl, rfl, W2, hW2, rfl⟩; skip; (try (have hq0 : hm' = Mem.le_refl _ := rfl; clear hq0 hm'))) | (refine zsp ?_ ?_ <;> (intro hc; (try simp only [zhcs, reduceCtorEq] at hc); (try (exfalso; first | omega | contradiction | omega | exact absurd rfl hc | exact absurd (by decide) hc))))))
    all_goals ((with_reducible refine At.reachk ((⟨i, j - i, W2⟩ : RoS)) ?_ ?_ ?_ ?_); exact zsubs; exact zml; exact zente; exact ⟨⟨g1, g2, by show 1 ≤ j - i; omega, by show k + (j - i) ≤ n; omega, hW2.1, fin W2 hW2⟩, by show i + (j - i) < i + j; omega⟩)
end So
end Go.Proofs.YtkoijdmlehkhbaaGreatDoor
namespace Go.Proofs.YtkoijdmlehkhbaaGreatDoor
open Go Go.J
attribute [local irreducible] At AtQ AtM AtM1 PR Ct Pu Rd Res.blk Res.own Res.ex RVs RV
namespace So
/-- some row that is such -/
def N (p : Option Addr) (c : Nat) (Φ : List Slot → Prop) : Res := .ex Φ (fun l => [oS p c l])
theorem N.close {p : Option Addr} {c : Nat} {Φ : List Slot → Prop} {l : List Slot} (h : Φ l) (Rest : List Res) : Ent (oS p c l :: Rest) (N p c Φ :: Rest) := Ent.closex (A := fun l : List Slot => [oS p c l]) l h
theorem N.mono {p : Option Addr} {c : Nat} {Φ Ψ : List Slot → Prop} (h : ∀ l, Φ l → Ψ l) (Rest : List Res) : Ent (N p c Φ :: Rest) (N p c Ψ :: Rest) := fun w s hs => by
  obtain ⟨s1, s2, h1, h2, hd, he⟩ := hs
  refine ⟨s, ⟨s1, s2, ?_, h2, hd, he⟩, fun _ x => x⟩
  unfold N Res.ex at h1 ⊢
  obtain ⟨x, hI, h3⟩ := h1
  exact ⟨x, h x hI, h3⟩
theorem toN {m : Mem} {f : FuncId} {args : Array Value} {p : Option Addr} {c : Nat} {Φ Ψ : List Slot → Prop} (h : ∀ l : List Slot, Φ l → Ct Tryz.prog f args m [oS p c l] (fun v m' B => PostR p c Ψ v m m' B)) :
    Ct Tryz.prog f args m [N p c Φ] (fun v m' B => v = .tuple #[] ∧ m = m' ∧ B = [N p c Ψ]) :=
  Ct.openx fun l hl => Ct.conv (h l hl) fun v m' B _ ⟨h1, h2, l2, hl2, h3⟩ => ⟨_, ⟨h1, h2, rfl⟩, fun Rest => by subst h3; exact N.close hl2 Rest⟩
theorem N.open {k : Nat} {w0 : World} {F : Fr} {m : Mem} {Rs0 Rs : List Res} {K : Go.Act → World → Prop} {p : Option Addr} {c : Nat} {Φ : List Slot → Prop} (hp : Pick Rs0 (N p c Φ) Rs) (h : ∀ l : List Slot, Φ l → At k w0 F m (oS p c l :: Rs) K) : At k w0 F m Rs0 K :=
  At.openx (I := Φ) (A := fun l => [oS p c l]) hp h
theorem postR_mono {p : Option Addr} {c : Nat} {Φ Ψ : List Slot → Prop} {m : Mem} {f : FuncId} {args : Array Value} {A : List Res} (h : ∀ l, Φ l → Ψ l) (k : Ct Tryz.prog f args m A (fun v m' B => PostR p c Φ v m m' B)) : Ct Tryz.prog f args m A (fun v m' B => PostR p c Ψ v m m' B) :=
  Ct.mono k fun v m' B _ ⟨h1, h2, l2, h3, h4⟩ => ⟨h1, h2, l2, h _ h3, h4⟩
structure BSt where
  (i j : Nat)
theorem half (x y : Nat) (d : Nat) (hd : (x + y) / 2 = d) (h : x + y ≤ 100000000) : IntKind.wrap .i64 ((x : Int) + (y : Int)) = ((x + y : Nat) : Int) ∧ IntKind.wrap .u64 ((x + y : Nat) : Int) = ((x + y : Nat) : Int) ∧ ((x + y : Nat) : Int) / 2 ^ (1 : Int).toNat = (d : Int) ∧ IntKind.wrap .i64 (d : Int) = (d : Int) ∧ IntKind.wrap .i64 ((d : Int) + 1) = ((d + 1 : Nat) : Int) ∧ IntKind.wrap .u64 (d : Int) = (d : Int) := by
  refine ⟨by rw [← Int.natCast_add]; exact IntWalk.i64_in _ (by omega), IntWalk.u64_in _ (by omega), by rw [← hd]; simp, IntWalk.i64_in _ (by omega), by rw [show (d : Int) + 1 = ((d + 1 : Nat) : Int) by omega]; exact IntWalk.i64_in _ (by omega), IntWalk.u64_in _ (by omega)⟩
def P1 (i k e : Nat) (l L : List Slot) : Prop := Mv i e l L ∧ ∀ q, L[q]! = rot i k e (fun q => l[q]!) q
def P2 (a i x k e : Nat) (l L : List Slot) : Prop := ∃ L1, P1 i k e l L1 ∧ Mg Slot.w a i x L1 L
set_option maxHeartbeats 8000000 in
theorem symG {m : Mem} (p : Option Addr) (c n d a k b : Nat) (l : List Slot) (hl : n ≤ 1000000) (hd : b - a ≤ d + 1) (hn : l.length = n) (h1 : a < k) (h2 : k < b) (hb : b ≤ n) (c1 : ¬ k - a = 1) (c2 : ¬ b - k = 1)
    (wi : IntKind.wrap .i64 ((k : Int) - (a : Int)) = ((k - a : Nat) : Int)) (wj : IntKind.wrap .i64 ((b : Int) - (k : Int)) = ((b - k : Nat) : Int))
    (ih : ∀ {m : Mem} (a k b : Nat) (l : List Slot), b - a ≤ d → l.length = n → a < k → k < b → b ≤ n →
      Ct Tryz.prog 229 #[.slice p n c, .int .i64 (a : Int), .int .i64 (k : Int), .int .i64 (b : Int), fnS] m [oS p c l] (fun v m' B => PostR p c (Mg Slot.w a k b l) v m m' B)) :
    Ct Tryz.prog 229 #[.slice p n c, .int .i64 (a : Int), .int .i64 (k : Int), .int .i64 (b : Int), fnS] m [oS p c l] (fun v m' B => PostR p c (Mg Slot.w a k b l) v m m' B) := by
  obtain ⟨x, hx⟩ : ∃ x, (a + b) / 2 = x := ⟨_, rfl⟩
  obtain ⟨u1, u2, u3, u4, u5, u6⟩ := half a b x hx (by omega)
  have v1 : IntKind.wrap .i64 ((x : Int) + (k : Int)) = ((x + k : Nat) : Int) := by rw [← Int.natCast_add]; exact IntWalk.i64_in _ (by omega)
  have v3 : IntKind.wrap .i64 (((x + k : Nat) : Int) - 1) = ((x + k - 1 : Nat) : Int) := by rw [show ((x + k : Nat) : Int) - 1 = ((x + k - 1 : Nat) : Int) by omega]; exact IntWalk.i64_in _ (by omega)
  have hst : x < k → b ≤ x + k := by omega
  have v2 : x < k → IntKind.wrap .i64 (((x + k : Nat) : Int) - (b : Int)) = ((x + k - b : Nat) : Int) := fun hh => by rw [show ((x + k : Nat) : Int) - (b : Int) = ((x + k - b : Nat) : Int) by have := hst hh; omega]; exact IntWalk.i64_in _ (by omega)
  have r1 := fun {m : Mem} (i e : Nat) (g1 : i < k) (g2 : k < e) (g3 : e ≤ n) => toN (m := m) (p := p) (c := c) (Φ := fun L => L = l) (Ψ := P1 i k e l) fun L hL => by
    subst hL
    exact postR_mono (fun L hL => ⟨Mv.rot (Nat.le_of_lt g1) (Nat.le_of_lt g2) (hL.1.trans hn.symm) hL.2.1 hL.2.2, hL.2.2⟩) (rotR p c i k e n L hn g1 g2 g3 hl)
  have r2 := fun {m : Mem} (i e : Nat) (g0 : x - a ≤ d) (g1 : a < i) (g2 : i < x) (g3 : x ≤ n) => toN (m := m) (p := p) (c := c) (Φ := P1 i k e l) (Ψ := P2 a i x k e l) fun L hL => postR_mono (fun L2 h2 => ⟨L, hL, h2⟩) (ih a i x L g0 (hL.1.len.trans hn) g1 g2 g3)
  have r3 := fun {m : Mem} (i e : Nat) (g0 : b - x ≤ d) (g1 : x < e) (g2 : e < b) (g3 : b ≤ n) => toN (m := m) (p := p) (c := c) (Φ := P2 a i x k e l) (Ψ := fun L => ∃ L2, P2 a i x k e l L2 ∧ Mg Slot.w x e b L2 L) fun L hL => postR_mono (fun L2 h2 => ⟨L, hL, h2⟩) (ih x e b L g0 (by obtain ⟨L1, q1, q2⟩ := hL; exact (q2.1.len.trans q1.1.len).trans hn) g1 g2 g3)
  refine Ct.enterV (by rfl) Tryz.func229 rfl Tryz.ntmps229 rfl (fun w0 Rest => ?_)
  (repeat' (first | ((refine At.cutk (t := 140) (σ := BSt) [0, 1, 2, 3, 4, 18, 19] (fun s F0 => (20, .int .i64 (s.i : Int)) :: (21, .int .i64 (s.j : Int)) :: F0) (fun s => m) (fun s => oS p c l :: Rest) (fun s => (a ≤ s.i ∧ s.i ≤ s.j ∧ x + k ≤ b + s.i ∧ s.j ≤ k ∧ s.j ≤ x) ∧ (a < s.i → b ≤ x + k - s.i) ∧ (s.j = k ∨ s.j = x)) (by rfl) (by rfl) ?_ ?_); (refine ⟨?_, ?_⟩ <;> (intro hc; (try simp only [zhcs, reduceCtorEq] at hc); (try (exfalso; first | contradiction | omega | exact absurd rfl hc | exact absurd (by decide) hc))))) | refine zss ?_ | ((first | (with_reducible first | apply At.val | apply AtQ.val)); (first | exact pr_sub (by rfl) (by rfl) wi | exact pr_sub (by rfl) (by rfl) wj | exact pr_add (by rfl) (by rfl) u1 | exact pr_conv ⟨_, rfl⟩ (by rfl) (by rfl) u2 | exact pr_shrv (by rfl) (by rfl) (by omega) (by decide) u3 | exact pr_conv ⟨_, rfl⟩ (by rfl) (by rfl) u4 | exact pr_add (by rfl) (by rfl) v1); exact rfl) | refine zsO ?_ | (refine zsp ?_ ?_ <;> (intro hc; (try simp only [zhcs, reduceCtorEq] at hc); (try (exfalso; first | omega | contradiction | omega | exact absurd rfl hc | exact absurd (by decide) hc))))))
  · rename_i hc
    have v2 := v2 (by omega)
    (repeat' (first | refine zss ?_ | ((first | (with_reducible first | apply At.val | apply AtQ.val)); (exact pr_sub (by rfl) (by rfl) v2); exact rfl) | refine zs0 ?_ | (refine zsp ?_ ?_ <;> (intro hc; (try simp only [zhcs, reduceCtorEq] at hc); (try (exfalso; first | contradiction | omega | exact absurd rfl hc | exact absurd (by decide) hc))))))
    ((with_reducible refine At.reachk ((⟨x + k - b, x⟩ : BSt)) ?_ ?_ ?_ ?_); exact zsubs; exact zml; exact zente; exact ⟨⟨by dsimp only; omega, by dsimp only; omega, by dsimp only; omega, by dsimp only; omega, Nat.le_refl _⟩, by dsimp only; omega, .inr rfl⟩)
  · rename_i hc
    (repeat' (first | refine zss ?_ | refine zsO ?_ | (refine zsp ?_ ?_ <;> (intro hc; (try simp only [zhcs, reduceCtorEq] at hc); (try (exfalso; first | contradiction | omega | exact absurd rfl hc | exact absurd (by decide) hc))))))
    ((with_reducible refine At.reachk ((⟨a, k⟩ : BSt)) ?_ ?_ ?_ ?_); exact zsubs; exact zml; exact zente; exact ⟨⟨Nat.le_refl _, by dsimp only; omega, by dsimp only; omega, Nat.le_refl _, by dsimp only; omega⟩, fun h => absurd h (Nat.lt_irrefl _), .inl rfl⟩)
  have hxa : a < x ∧ x < b := by omega
  clear u1 u2 u3 u4 u5 u6 v1 v2 wi wj ih hst hx
  rintro ⟨A, R⟩ ⟨⟨g1, g2, g3, g4, g5⟩, gA, gR⟩
  dsimp only at g1 g2 g3 g4 g5 gA gR ⊢
  have w3 : IntKind.wrap .i64 (((x + k : Nat) : Int) - 1) = ((x + k - 1 : Nat) : Int) := v3
  clear v3
  (repeat' (first | refine zss ?_ | ((first | (with_reducible first | apply At.val | apply AtQ.val)); (exact pr_sub (by rfl) (by rfl) w3); exact rfl) | refine zsO ?_ | (refine zsp ?_ ?_ <;> (intro hc; (try simp only [zhcs, reduceCtorEq] at hc); (try (exfalso; first | contradiction | omega | exact absurd rfl hc | exact absurd (by decide) hc))))))
  (refine At.loopk (σ := BSt) [0, 1, 2, 3, 4, 18, 19, 22] (fun s F0 => (20, .int .i64 (s.i : Int)) :: (21, .int .i64 (s.j : Int)) :: F0) (fun s => m) (fun s => oS p c l :: Rest) (fun s => (A ≤ s.i ∧ s.i ≤ s.j ∧ s.j ≤ R) ∧ (A < s.i → l[s.i - 1]!.w ≤ l[x + k - s.i]!.w) ∧ (s.j < R → l[x + k - 1 - s.j]!.w < l[s.j]!.w)) (fun s => s.j - s.i) ⟨A, R⟩ (by rfl) ?_ zsubs zml zente ?_)
  · exact ⟨⟨Nat.le_refl _, g2, Nat.le_refl _⟩, fun h => absurd h (Nat.lt_irrefl _), fun h => absurd h (Nat.lt_irrefl _)⟩
  rintro ⟨i, j⟩ ⟨⟨f1, f2, f3⟩, fA, fR⟩
  dsimp only at f1 f2 f3 fA fR ⊢
  by_cases e : i < j
  · obtain ⟨y, hy⟩ : ∃ y, (i + j) / 2 = y := ⟨_, rfl⟩
    obtain ⟨t1, t2, t3, t4, t5, t6⟩ := half i j y hy (by omega)
    have t7 : IntKind.wrap .i64 (((x + k - 1 : Nat) : Int) - (y : Int)) = ((x + k - 1 - y : Nat) : Int) := by rw [show ((x + k - 1 : Nat) : Int) - (y : Int) = ((x + k - 1 - y : Nat) : Int) by omega]; exact IntWalk.i64_in _ (by omega)
    obtain ⟨z, hz⟩ : ∃ z, x + k - 1 - y = z := ⟨_, rfl⟩
    have hz2 : x + k - (y + 1) = z := by omega
    have hcm := fun (m : Mem) => sortA (m := m) (l[z]!) (l[y]!)
    by_cases e2 : cmpI l[z]!.w l[y]!.w < 0
    · have q1 : ((A ≤ i ∧ i ≤ y ∧ y ≤ R) ∧ (A < i → l[i - 1]!.w ≤ l[x + k - i]!.w) ∧ (y < R → l[x + k - 1 - y]!.w < l[y]!.w)) ∧ y - i < j - i := ⟨⟨⟨by omega, by omega, by omega⟩, fA, fun _ => by rw [hz]; exact cmpI_lt.1 e2⟩, by omega⟩
      rw [hz] at t7
      have hz' : z < n := by omega
      have hy' : y < n := by omega
      clear hy g1 g2 g3 g4 g5 gA gR f1 f2 f3 fA fR w3 r1 r2 r3 hz hz2 h1 h2 hb c1 c2 hd hl
      generalize cmpI l[z]!.w l[y]!.w = r at hcm e2
      (repeat' (first | ((with_reducible apply At.mixed (id := 5) 11 (.q 0 (.q 1 (.q 2 (.q 3 (.q 4 (.q 5 (.q 6 (.q 7 (.q 8 (.x 9 (.q 10 .done)))))))))))); exact rfl; kernel_rfl; kernel_rfl; kernel_rfl) | ((with_reducible apply At.mixed (id := 11) 18 (.q 0 (.q 1 (.q 2 (.q 3 (.q 4 (.q 5 (.q 6 (.q 7 (.q 8 (.q 9 (.q 10 (.q 11 (.q 12 (.q 13 (.q 14 (.x 15 (.q 16 (.x 17 .done))))))))))))))))))); exact rfl; kernel_rfl; kernel_rfl; kernel_rfl) | ((with_reducible apply At.mixed (id := 17) 12 (.q 0 (.q 1 (.q 2 (.q 3 (.q 4 (.q 5 (.q 6 (.q 7 (.q 8 (.x 9 (.q 10 (.q 11 .done))))))))))))); exact rfl; kernel_rfl; kernel_rfl; kernel_rfl) | ((with_reducible apply At.mixed (id := 23) 18 (.q 0 (.q 1 (.q 2 (.q 3 (.q 4 (.q 5 (.q 6 (.q 7 (.q 8 (.q 9 (.q 10 (.q 11 (.q 12 (.q 13 (.q 14 (.x 15 (.q 16 (.x 17 .done))))))))))))))))))); exact rfl; kernel_rfl; kernel_rfl; kernel_rfl) | ((with_reducible apply At.mixed (id := 35) 14 (.q 0 (.q 1 (.q 2 (.q 3 (.q 4 (.q 5 (.q 6 (.q 7 (.q 8 (.q 9 (.q 10 (.x 11 (.q 12 (.q 13 .done))))))))))))))); exact rfl; kernel_rfl; kernel_rfl; kernel_rfl) | refine zsx ?_ | refine zss ?_ | ((with_reducible apply AtM.bo); exact rfl; exact rfl; exact rfl) | ((first | (with_reducible first | apply At.val | apply AtQ.val) | ((with_reducible first | apply AtM1.valz | apply AtM1.val); exact rfl) | ((with_reducible apply AtM1.val); exact rfl)); (first | exact pr_add (by rfl) (by rfl) t1 | exact pr_add (by rfl) (by rfl) t5 | exact pr_conv ⟨_, rfl⟩ (by rfl) (by rfl) t2 | exact pr_shrv (by rfl) (by rfl) (by omega) (by decide) t3 | exact pr_conv ⟨_, rfl⟩ (by rfl) (by rfl) t4 | exact pr_sub (by rfl) (by rfl) t7); exact rfl) | refine zsO ?_ | refine zxO ?_ | ((with_reducible apply At.callf); exact rfl; kernel_rfl; exact rfl; exact rfl; exact hcm _; exact ztk; rintro v' m' B' hm' ⟨rfl, rfl, rfl⟩; skip) | (refine zsp ?_ ?_ <;> (intro hc; (try simp only [zhcs, reduceCtorEq] at hc); (try (exfalso; first | omega | contradiction | omega | exact absurd rfl hc | exact absurd (by decide) hc))))))
      all_goals ((with_reducible refine At.reachk ((⟨i, y⟩ : BSt)) ?_ ?_ ?_ ?_); exact zsubs; exact zml; exact zente; exact q1)
    · have q2 : ((A ≤ y + 1 ∧ y + 1 ≤ j ∧ j ≤ R) ∧ (A < y + 1 → l[y + 1 - 1]!.w ≤ l[x + k - (y + 1)]!.w) ∧ (j < R → l[x + k - 1 - j]!.w < l[j]!.w)) ∧ j - (y + 1) < j - i := ⟨⟨⟨by omega, by omega, by omega⟩, fun _ => by
        rw [hz2, Nat.add_sub_cancel]
        have : ¬ l[z]!.w < l[y]!.w := fun h => e2 (cmpI_lt.2 h)
        omega, fR⟩, by omega⟩
      rw [hz] at t7
      have hz' : z < n := by omega
      have hy' : y < n := by omega
      clear hy g1 g2 g3 g4 g5 gA gR f1 f2 f3 fA fR w3 r1 r2 r3 hz hz2 h1 h2 hb c1 c2 hd hl
      generalize cmpI l[z]!.w l[y]!.w = r at hcm e2
      (repeat' (first | ((with_reducible apply At.mixed (id := 5) 11 (.q 0 (.q 1 (.q 2 (.q 3 (.q 4 (.q 5 (.q 6 (.q 7 (.q 8 (.x 9 (.q 10 .done)))))))))))); exact rfl; kernel_rfl; kernel_rfl; kernel_rfl) | ((with_reducible apply At.mixed (id := 11) 18 (.q 0 (.q 1 (.q 2 (.q 3 (.q 4 (.q 5 (.q 6 (.q 7 (.q 8 (.q 9 (.q 10 (.q 11 (.q 12 (.q 13 (.q 14 (.x 15 (.q 16 (.x 17 .done))))))))))))))))))); exact rfl; kernel_rfl; kernel_rfl; kernel_rfl) | ((with_reducible apply At.mixed (id := 17) 12 (.q 0 (.q 1 (.q 2 (.q 3 (.q 4 (.q 5 (.q 6 (.q 7 (.q 8 (.x 9 (.q 10 (.q 11 .done))))))))))))); exact rfl; kernel_rfl; kernel_rfl; kernel_rfl) | ((with_reducible apply At.mixed (id := 23) 18 (.q 0 (.q 1 (.q 2 (.q 3 (.q 4 (.q 5 (.q 6 (.q 7 (.q 8 (.q 9 (.q 10 (.q 11 (.q 12 (.q 13 (.q 14 (.x 15 (.q 16 (.x 17 .done))))))))))))))))))); exact rfl; kernel_rfl; kernel_rfl; kernel_rfl) | ((with_reducible apply At.mixed (id := 35) 14 (.q 0 (.q 1 (.q 2 (.q 3 (.q 4 (.q 5 (.q 6 (.q 7 (.q 8 (.q 9 (.q 10 (.x 11 (.q 12 (.q 13 .done))))))))))))))); exact rfl; kernel_rfl; kernel_rfl; kernel_rfl) | refine zsx ?_ | refine zss ?_ | ((with_reducible apply AtM.bo); exact rfl; exact rfl; exact rfl) | ((first | (with_reducible first | apply At.val | apply AtQ.val) | ((with_reducible first | apply AtM1.valz | apply AtM1.val); exact rfl) | ((with_reducible apply AtM1.val); exact rfl)); (first | exact pr_add (by rfl) (by rfl) t1 | exact pr_add (by rfl) (by rfl) t5 | exact pr_conv ⟨_, rfl⟩ (by rfl) (by rfl) t2 | exact pr_shrv (by rfl) (by rfl) (by omega) (by decide) t3 | exact pr_conv ⟨_, rfl⟩ (by rfl) (by rfl) t4 | exact pr_sub (by rfl) (by rfl) t7); exact rfl) | refine zsO ?_ | refine zxO ?_ | ((with_reducible apply At.callf); exact rfl; kernel_rfl; exact rfl; exact rfl; exact hcm _; exact ztk; rintro v' m' B' hm' ⟨rfl, rfl, rfl⟩; skip) | (refine zsp ?_ ?_ <;> (intro hc; (try simp only [zhcs, reduceCtorEq] at hc); (try (exfalso; first | omega | contradiction | omega | exact absurd rfl hc | exact absurd (by decide) hc))))))
      all_goals ((with_reducible refine At.reachk ((⟨y + 1, j⟩ : BSt)) ?_ ?_ ?_ ?_); exact zsubs; exact zml; exact zente; exact q2)
  · have eij : i = j := by omega
    subst eij
    have w9 : IntKind.wrap .i64 (((x + k : Nat) : Int) - (i : Int)) = ((x + k - i : Nat) : Int) := by rw [show ((x + k : Nat) : Int) - (i : Int) = ((x + k - i : Nat) : Int) by omega]; exact IntWalk.i64_in _ (by omega)
    obtain ⟨E, hE⟩ : ∃ E, x + k - i = E := ⟨_, rfl⟩
    have fin : ∀ L3, (∃ L2, P2 a i x k E l L2 ∧ Mg Slot.w x E b L2 L3) → Mg Slot.w a k b l L3 := fun L3 ⟨L2, ⟨L1, q1, q2⟩, q3⟩ =>
      sym_fin (s := i) (e := E) hxa.1 hxa.2 (by omega) (by omega) (by omega) (by omega) (by omega) (by omega)
        (fun s1 s2 => by
          by_cases hA : A < i
          · have := fA hA; rw [hE] at this; exact this
          · have := gA (by omega); omega)
        (fun s1 s2 => by
          by_cases hR : i < R
          · have := fR hR; rw [show x + k - 1 - i = E - 1 by omega] at this; omega
          · omega)
        q1.1 q1.2 q2 q3
    have z1 : ¬ (i < k ∧ k < E) → ∀ L, L = l → P1 i k E l L := fun h L hL => by
      subst hL
      exact ⟨Mv.refl _ _ _, fun q => (rot_same _ (by omega) (by omega) (by omega) q).symm⟩
    have z2 : ¬ (a < i ∧ i < x) → ∀ L, P1 i k E l L → P2 a i x k E l L := fun h L hL => ⟨L, hL, Mg.none _ L (by omega)⟩
    have z3 : ¬ (x < E ∧ E < b) → ∀ L, P2 a i x k E l L → ∃ L2, P2 a i x k E l L2 ∧ Mg Slot.w x E b L2 L := fun h L hL => ⟨L, hL, Mg.none _ L (by omega)⟩
    rw [hE] at w9
    have k1 := fun {m : Mem} (q1 : i < k) (q2 : k < E) => r1 (m := m) i E q1 q2 (by omega)
    have k2 := fun {m : Mem} (q1 : a < i) (q2 : i < x) => r2 (m := m) i E (by omega) q1 q2 (by omega)
    have k3 := fun {m : Mem} (q1 : x < E) (q2 : E < b) => r3 (m := m) i E (by omega) q1 q2 hb
    clear r1 r2 r3 g1 g2 g3 g4 g5 gA gR f1 f2 f3 fA fR w3 hE h1 h2 hb c1 c2 hd hl
    refine At.ent (N.close (Φ := fun L => L = l) rfl _) ?_
    generalize hF1 : P1 i k E l = F1 at *
    generalize hF2 : P2 a i x k E l = F2 at *
    clear hF1 hF2
    (repeat' (first | (refine At.cutp (id := 39) (i < k ∧ k < E) 185 [0, 1, 2, 3, 4, 18, 20, 24] (by rfl) ?_ ?_) | ((refine At.cutk (t := 185) (σ := Unit) [0, 1, 3, 4, 18, 20, 24] (fun s F0 => F0) (fun s => m) (fun s => N p c F1 :: Rest) (fun s => True) (by rfl) (by rfl) ?_ ?_); (refine ⟨?_, ?_⟩ <;> (intro hc; (try simp only [zhcs, reduceCtorEq] at hc); (try (exfalso; first | contradiction | omega | exact absurd rfl hc | exact absurd (by decide) hc))))) | refine zss ?_ | ((first | (with_reducible first | apply At.val | apply AtQ.val)); (exact pr_sub (by rfl) (by rfl) w9); exact rfl) | refine zs0 ?_ | ((with_reducible apply At.endp); exact rfl; exact zsubs; exact zml; exact zente; (simp only [decide_eq_true_eq, decide_eq_false_iff_not, Bool.not_eq_true', Bool.not_eq_false', Bool.false_eq_true, Bool.true_eq_false, false_iff, true_iff]; first | omega | (constructor <;> intros <;> omega))) | (refine zsp ?_ ?_ <;> (intro hc; (try simp only [zhcs, reduceCtorEq] at hc); (try (exfalso; first | contradiction | omega | exact absurd rfl hc | exact absurd (by decide) hc))))))
    · (repeat' (first | refine zss ?_ | refine zs0 ?_ | ((with_reducible first | apply At.c1 | apply At.c0); exact rfl; exact rfl; exact k1 (by omega) (by omega); exact ztk; kernel_rfl; rintro v' m' B' hm' ⟨rfl, rfl, rfl⟩; skip; (try (have hq0 : hm' = Mem.le_refl _ := rfl; clear hq0 hm'))) | (refine zsp ?_ ?_ <;> (intro hc; (try simp only [zhcs, reduceCtorEq] at hc); (try (exfalso; first | contradiction | omega | exact absurd rfl hc | exact absurd (by decide) hc))))))
      ((with_reducible refine At.reachk (()) ?_ ?_ ?_ ?_); exact zsubs; exact zml; exact zente; exact trivial)
    · refine At.ent (N.mono (z1 (by omega)) _) ?_
      (repeat' (first | refine zss ?_ | refine zsM ?_ | (refine zsp ?_ ?_ <;> (intro hc; (try simp only [zhcs, reduceCtorEq] at hc); (try (exfalso; first | contradiction | omega | exact absurd rfl hc | exact absurd (by decide) hc))))))
      ((with_reducible refine At.reachk (()) ?_ ?_ ?_ ?_); exact zsubs; exact zml; exact zente; exact trivial)
    rintro - -
    (repeat' (first | (refine At.cutp (id := 41) (a < i ∧ i < x) 199 [0, 1, 3, 4, 18, 20, 24] (by rfl) ?_ ?_) | ((refine At.cutk (t := 199) (σ := Unit) [0, 3, 4, 18, 24] (fun s F0 => F0) (fun s => m) (fun s => N p c F2 :: Rest) (fun s => True) (by rfl) (by rfl) ?_ ?_); (refine ⟨?_, ?_⟩ <;> (intro hc; (try simp only [zhcs, reduceCtorEq] at hc); (try (exfalso; first | contradiction | omega | exact absurd rfl hc | exact absurd (by decide) hc))))) | refine zss ?_ | refine zs0 ?_ | ((with_reducible apply At.endp); exact rfl; exact zsubs; exact zml; exact zente; (simp only [decide_eq_true_eq, decide_eq_false_iff_not, Bool.not_eq_true', Bool.not_eq_false', Bool.false_eq_true, Bool.true_eq_false, false_iff, true_iff]; first | omega | (constructor <;> intros <;> omega))) | (refine zsp ?_ ?_ <;> (intro hc; (try simp only [zhcs, reduceCtorEq] at hc); (try (exfalso; first | contradiction | omega | exact absurd rfl hc | exact absurd (by decide) hc))))))
    · (repeat' (first | refine zss ?_ | refine zs0 ?_ | ((with_reducible first | apply At.c1 | apply At.c0); exact rfl; exact rfl; exact k2 (by omega) (by omega); exact ztk; kernel_rfl; rintro v' m' B' hm' ⟨rfl, rfl, rfl⟩; skip; (try (have hq0 : hm' = Mem.le_refl _ := rfl; clear hq0 hm'))) | (refine zsp ?_ ?_ <;> (intro hc; (try simp only [zhcs, reduceCtorEq] at hc); (try (exfalso; first | contradiction | omega | exact absurd rfl hc | exact absurd (by decide) hc))))))
      ((with_reducible refine At.reachk (()) ?_ ?_ ?_ ?_); exact zsubs; exact zml; exact zente; exact trivial)
    · refine At.ent (N.mono (z2 (by omega)) _) ?_
      (repeat' (first | refine zss ?_ | refine zsM ?_ | (refine zsp ?_ ?_ <;> (intro hc; (try simp only [zhcs, reduceCtorEq] at hc); (try (exfalso; first | contradiction | omega | exact absurd rfl hc | exact absurd (by decide) hc))))))
      ((with_reducible refine At.reachk (()) ?_ ?_ ?_ ?_); exact zsubs; exact zml; exact zente; exact trivial)
    rintro - -
    (repeat' (first | (refine At.cutp (id := 43) (x < E ∧ E < b) 213 [0, 3, 4, 18, 24] (by rfl) ?_ ?_) | refine zss ?_ | refine zs0 ?_ | ((with_reducible apply At.endp); exact rfl; exact zsubs; exact zml; exact zente; (simp only [decide_eq_true_eq, decide_eq_false_iff_not, Bool.not_eq_true', Bool.not_eq_false', Bool.false_eq_true, Bool.true_eq_false, false_iff, true_iff]; first | omega | (constructor <;> intros <;> omega))) | ((with_reducible first | apply At.c1 | apply At.c0); exact rfl; exact rfl; exact k3 (by omega) (by omega); exact ztk; kernel_rfl; rintro v' m' B' hm' ⟨rfl, rfl, rfl⟩; skip; (try (have hq0 : hm' = Mem.le_refl _ := rfl; clear hq0 hm'))) | (refine zsp ?_ ?_ <;> (intro hc; (try simp only [zhcs, reduceCtorEq] at hc); (try (exfalso; first | contradiction | omega | exact absurd rfl hc | exact absurd (by decide) hc))))))
    · refine N.open (p := p) (c := c) (by repeat constructor) fun L hL => ?_
      ((first | (with_reducible apply At.retB0 (B := [oS p c L])) | (with_reducible apply At.retR0 (B := [oS p c L]))); exact rfl; exact zml; exact zkp; exact ⟨rfl, rfl, _, fin L hL, rfl⟩)
    · refine At.ent (N.mono (z3 (by omega)) _) ?_
      refine N.open (p := p) (c := c) (by repeat constructor) fun L hL => ?_
      ((first | (with_reducible apply At.retB0 (B := [oS p c L])) | (with_reducible apply At.retR0 (B := [oS p c L]))); exact rfl; exact zml; exact zkp; exact ⟨rfl, rfl, _, fin L hL, rfl⟩)
end So
end Go.Proofs.YtkoijdmlehkhbaaGreatDoor
namespace Go.Proofs.YtkoijdmlehkhbaaGreatDoor
open Go Go.J
attribute [local irreducible] At AtQ AtM AtM1 PR Ct Pu Rd Res.blk Res.own Res.ex RVs RV So.N
namespace So
set_option maxHeartbeats 8000000 in
theorem symM (p : Option Addr) (c n : Nat) (hl : n ≤ 1000000) : ∀ (d : Nat) {m : Mem} (a k b : Nat) (l : List Slot), b - a ≤ d → l.length = n → a < k → k < b → b ≤ n →
    Ct Tryz.prog 229 #[.slice p n c, .int .i64 (a : Int), .int .i64 (k : Int), .int .i64 (b : Int), fnS] m [oS p c l] (fun v m' B => PostR p c (Mg Slot.w a k b l) v m m' B)
  | 0, m, a, k, b, l, hd, hn, h1, h2, hb => absurd hd (by omega)
  | d + 1, m, a, k, b, l, hd, hn, h1, h2, hb => by
    have ih := fun {m : Mem} => symM p c n hl d (m := m)
    have wi : IntKind.wrap .i64 ((k : Int) - (a : Int)) = ((k - a : Nat) : Int) := by rw [show (k : Int) - (a : Int) = ((k - a : Nat) : Int) by omega]; exact IntWalk.i64_in _ (by omega)
    have wj : IntKind.wrap .i64 ((b : Int) - (k : Int)) = ((b - k : Nat) : Int) := by rw [show (b : Int) - (k : Int) = ((b - k : Nat) : Int) by omega]; exact IntWalk.i64_in _ (by omega)
    by_cases c1 : k - a = 1
    · clear ih
      refine Ct.enterV (by rfl) Tryz.func229 rfl Tryz.ntmps229 rfl (fun w0 Rest => ?_)
      (repeat' (first | refine zss ?_ | ((first | (with_reducible first | apply At.val | apply AtQ.val)); (exact pr_sub (by rfl) (by rfl) wi); exact rfl) | refine zsO ?_ | (refine zsp ?_ ?_ <;> (intro hc; (try simp only [zhcs, reduceCtorEq] at hc); (try (exfalso; first | omega | contradiction | omega | exact absurd rfl hc | exact absurd (by decide) hc))))))
      (refine At.loopk (σ := BSt) [0, 1, 4] (fun s F0 => (10, .int .i64 (s.i : Int)) :: (11, .int .i64 (s.j : Int)) :: F0) (fun s => m) (fun s => oS p c l :: Rest) (fun s => (k ≤ s.i ∧ s.i ≤ s.j ∧ s.j ≤ b) ∧ (k < s.i → l[s.i - 1]!.w < l[a]!.w) ∧ (s.j < b → l[a]!.w ≤ l[s.j]!.w)) (fun s => s.j - s.i) ⟨k, b⟩ (by rfl) ?_ zsubs zml zente ?_)
      · exact ⟨⟨Nat.le_refl _, by show k ≤ b; omega, Nat.le_refl _⟩, fun h => absurd h (Nat.lt_irrefl _), fun h => absurd h (Nat.lt_irrefl _)⟩
      rintro ⟨i, j⟩ ⟨⟨g1, g2, g3⟩, gA, gB⟩
      dsimp only at g1 g2 g3 gA gB ⊢
      by_cases e : i < j
      · obtain ⟨x, hx⟩ : ∃ x, (i + j) / 2 = x := ⟨_, rfl⟩
        obtain ⟨u1, u2, u3, u4, u5, u6⟩ := half i j x hx (by omega)
        have hcm := fun (m : Mem) => sortA (m := m) (l[x]!) (l[a]!)
        by_cases e2 : cmpI l[x]!.w l[a]!.w < 0
        · have q1 := cmpI_lt.1 e2
          generalize cmpI l[x]!.w l[a]!.w = r at hcm e2
          (repeat' (first | ((with_reducible apply At.mixed (id := 5) 11 (.q 0 (.q 1 (.q 2 (.q 3 (.q 4 (.q 5 (.q 6 (.q 7 (.q 8 (.x 9 (.q 10 .done)))))))))))); exact rfl; kernel_rfl; kernel_rfl; kernel_rfl) | ((with_reducible apply At.mixed (id := 11) 18 (.q 0 (.q 1 (.q 2 (.q 3 (.q 4 (.q 5 (.q 6 (.q 7 (.q 8 (.q 9 (.q 10 (.q 11 (.q 12 (.q 13 (.q 14 (.x 15 (.q 16 (.x 17 .done))))))))))))))))))); exact rfl; kernel_rfl; kernel_rfl; kernel_rfl) | ((with_reducible apply At.mixed (id := 17) 12 (.q 0 (.q 1 (.q 2 (.q 3 (.q 4 (.q 5 (.q 6 (.q 7 (.q 8 (.x 9 (.q 10 (.q 11 .done))))))))))))); exact rfl; kernel_rfl; kernel_rfl; kernel_rfl) | ((with_reducible apply At.mixed (id := 23) 18 (.q 0 (.q 1 (.q 2 (.q 3 (.q 4 (.q 5 (.q 6 (.q 7 (.q 8 (.q 9 (.q 10 (.q 11 (.q 12 (.q 13 (.q 14 (.x 15 (.q 16 (.x 17 .done))))))))))))))))))); exact rfl; kernel_rfl; kernel_rfl; kernel_rfl) | ((with_reducible apply At.mixed (id := 35) 14 (.q 0 (.q 1 (.q 2 (.q 3 (.q 4 (.q 5 (.q 6 (.q 7 (.q 8 (.q 9 (.q 10 (.x 11 (.q 12 (.q 13 .done))))))))))))))); exact rfl; kernel_rfl; kernel_rfl; kernel_rfl) | refine zsx ?_ | refine zss ?_ | ((with_reducible apply AtM.bo); exact rfl; exact rfl; exact rfl) | ((first | (with_reducible first | apply At.val | apply AtQ.val) | ((with_reducible first | apply AtM1.valz | apply AtM1.val); exact rfl) | ((with_reducible apply AtM1.val); exact rfl)); (first | exact pr_add (by rfl) (by rfl) u1 | exact pr_add (by rfl) (by rfl) u5 | exact pr_conv ⟨_, rfl⟩ (by rfl) (by rfl) u2 | exact pr_shrv (by rfl) (by rfl) (by omega) (by decide) u3 | exact pr_conv ⟨_, rfl⟩ (by rfl) (by rfl) u4); exact rfl) | refine zsO ?_ | refine zxO ?_ | ((with_reducible apply At.callf); exact rfl; kernel_rfl; exact rfl; exact rfl; exact hcm _; exact ztk; rintro v' m' B' hm' ⟨rfl, rfl, rfl⟩; skip) | (refine zsp ?_ ?_ <;> (intro hc; (try simp only [zhcs, reduceCtorEq] at hc); (try (exfalso; first | omega | contradiction | omega | exact absurd rfl hc | exact absurd (by decide) hc))))))
          all_goals ((with_reducible refine At.reachk ((⟨x + 1, j⟩ : BSt)) ?_ ?_ ?_ ?_); exact zsubs; exact zml; exact zente; exact ⟨⟨⟨by show k ≤ x + 1; omega, by show x + 1 ≤ j; omega, g3⟩, fun _ => q1, gB⟩, by show j - (x + 1) < j - i; omega⟩)
        · have q1 : l[a]!.w ≤ l[x]!.w := Int.not_lt.1 fun h => e2 (cmpI_lt.2 h)
          generalize cmpI l[x]!.w l[a]!.w = r at hcm e2
          (repeat' (first | ((with_reducible apply At.mixed (id := 5) 11 (.q 0 (.q 1 (.q 2 (.q 3 (.q 4 (.q 5 (.q 6 (.q 7 (.q 8 (.x 9 (.q 10 .done)))))))))))); exact rfl; kernel_rfl; kernel_rfl; kernel_rfl) | ((with_reducible apply At.mixed (id := 11) 18 (.q 0 (.q 1 (.q 2 (.q 3 (.q 4 (.q 5 (.q 6 (.q 7 (.q 8 (.q 9 (.q 10 (.q 11 (.q 12 (.q 13 (.q 14 (.x 15 (.q 16 (.x 17 .done))))))))))))))))))); exact rfl; kernel_rfl; kernel_rfl; kernel_rfl) | ((with_reducible apply At.mixed (id := 17) 12 (.q 0 (.q 1 (.q 2 (.q 3 (.q 4 (.q 5 (.q 6 (.q 7 (.q 8 (.x 9 (.q 10 (.q 11 .done))))))))))))); exact rfl; kernel_rfl; kernel_rfl; kernel_rfl) | ((with_reducible apply At.mixed (id := 23) 18 (.q 0 (.q 1 (.q 2 (.q 3 (.q 4 (.q 5 (.q 6 (.q 7 (.q 8 (.q 9 (.q 10 (.q 11 (.q 12 (.q 13 (.q 14 (.x 15 (.q 16 (.x 17 .done))))))))))))))))))); exact rfl; kernel_rfl; kernel_rfl; kernel_rfl) | ((with_reducible apply At.mixed (id := 35) 14 (.q 0 (.q 1 (.q 2 (.q 3 (.q 4 (.q 5 (.q 6 (.q 7 (.q 8 (.q 9 (.q 10 (.x 11 (.q 12 (.q 13 .done))))))))))))))); exact rfl; kernel_rfl; kernel_rfl; kernel_rfl) | refine zsx ?_ | refine zss ?_ | ((with_reducible apply AtM.bo); exact rfl; exact rfl; exact rfl) | ((first | (with_reducible first | apply At.val | apply AtQ.val) | ((with_reducible first | apply AtM1.valz | apply AtM1.val); exact rfl) | ((with_reducible apply AtM1.val); exact rfl)); (first | exact pr_add (by rfl) (by rfl) u1 | exact pr_add (by rfl) (by rfl) u5 | exact pr_conv ⟨_, rfl⟩ (by rfl) (by rfl) u2 | exact pr_shrv (by rfl) (by rfl) (by omega) (by decide) u3 | exact pr_conv ⟨_, rfl⟩ (by rfl) (by rfl) u4); exact rfl) | refine zsO ?_ | refine zxO ?_ | ((with_reducible apply At.callf); exact rfl; kernel_rfl; exact rfl; exact rfl; exact hcm _; exact ztk; rintro v' m' B' hm' ⟨rfl, rfl, rfl⟩; skip) | (refine zsp ?_ ?_ <;> (intro hc; (try simp only [zhcs, reduceCtorEq] at hc); (try (exfalso; first | omega | contradiction | omega | exact absurd rfl hc | exact absurd (by decide) hc))))))
          all_goals ((with_reducible refine At.reachk ((⟨i, x⟩ : BSt)) ?_ ?_ ?_ ?_); exact zsubs; exact zml; exact zente; exact ⟨⟨⟨g1, by show i ≤ x; omega, by show x ≤ b; omega⟩, gA, fun _ => q1⟩, by show x - i < j - i; omega⟩)
      · have eij : i = j := by omega
        subst eij
        have wq : IntKind.wrap .i64 ((i : Int) - 1) = ((i - 1 : Nat) : Int) := by rw [show (i : Int) - 1 = ((i - 1 : Nat) : Int) by omega]; exact IntWalk.i64_in _ (by omega)
        (repeat' (first | refine zss ?_ | refine zsO ?_ | (refine zsp ?_ ?_ <;> (intro hc; (try simp only [zhcs, reduceCtorEq] at hc); (try (exfalso; first | omega | contradiction | omega | exact absurd rfl hc | exact absurd (by decide) hc))))))
        (refine At.loopk (σ := NS) [0, 10] (fun s F0 => (13, .int .i64 (s.i : Int)) :: F0) (fun s => m) (fun s => oS p c s.L :: Rest) (fun s => (a ≤ s.i ∧ s.i ≤ i - 1) ∧ Mv a b l s.L ∧ ∀ q, s.L[q]! = shl a s.i (fun q => l[q]!) q) (fun s => n - s.i) ⟨a, l⟩ (by rfl) ?_ zsubs zml zente ?_)
        · exact ⟨⟨Nat.le_refl _, by show a ≤ i - 1; omega⟩, Mv.refl _ _ _, fun q => (shl_zero a _ q).symm⟩
        rintro ⟨q, W⟩ ⟨⟨f1, f1'⟩, fM, fW⟩
        dsimp only at f1 f1' fM fW ⊢
        have f2 : W.length = n := fM.len.trans hn
        by_cases eq : q < i - 1
        · have hN : Mv a b l (swp W q (q + 1)) := fM.trans (Mv.swp (by omega) (by omega) (by omega))
          have hQ : ∀ u, (swp W q (q + 1))[u]! = shl a (q + 1) (fun q => l[q]!) u := fun u => by
            rw [swp_get (by omega) (by omega), shl_step _ f1, fW, fW, fW]
          clear fM fW gA gB
          unfold swp at hN hQ
          (repeat' (first | ((with_reducible apply At.mixed (id := 5) 11 (.q 0 (.q 1 (.q 2 (.q 3 (.q 4 (.q 5 (.q 6 (.q 7 (.q 8 (.x 9 (.q 10 .done)))))))))))); exact rfl; kernel_rfl; kernel_rfl; kernel_rfl) | ((with_reducible apply At.mixed (id := 11) 18 (.q 0 (.q 1 (.q 2 (.q 3 (.q 4 (.q 5 (.q 6 (.q 7 (.q 8 (.q 9 (.q 10 (.q 11 (.q 12 (.q 13 (.q 14 (.x 15 (.q 16 (.x 17 .done))))))))))))))))))); exact rfl; kernel_rfl; kernel_rfl; kernel_rfl) | ((with_reducible apply At.mixed (id := 17) 12 (.q 0 (.q 1 (.q 2 (.q 3 (.q 4 (.q 5 (.q 6 (.q 7 (.q 8 (.x 9 (.q 10 (.q 11 .done))))))))))))); exact rfl; kernel_rfl; kernel_rfl; kernel_rfl) | ((with_reducible apply At.mixed (id := 23) 18 (.q 0 (.q 1 (.q 2 (.q 3 (.q 4 (.q 5 (.q 6 (.q 7 (.q 8 (.q 9 (.q 10 (.q 11 (.q 12 (.q 13 (.q 14 (.x 15 (.q 16 (.x 17 .done))))))))))))))))))); exact rfl; kernel_rfl; kernel_rfl; kernel_rfl) | ((with_reducible apply At.mixed (id := 35) 14 (.q 0 (.q 1 (.q 2 (.q 3 (.q 4 (.q 5 (.q 6 (.q 7 (.q 8 (.q 9 (.q 10 (.x 11 (.q 12 (.q 13 .done))))))))))))))); exact rfl; kernel_rfl; kernel_rfl; kernel_rfl) | refine zsx ?_ | refine zss ?_ | ((with_reducible apply AtM.bo); exact rfl; exact rfl; exact rfl) | ((first | (with_reducible first | apply At.val | apply AtQ.val) | ((with_reducible first | apply AtM1.valz | apply AtM1.val); exact rfl) | ((with_reducible apply AtM1.val); exact rfl)); (exact pr_sub (by rfl) (by rfl) wq); exact rfl) | refine zsO ?_ | refine zxO ?_ | ((with_reducible apply At.storeW (f := cells) (x' := (W[q + 1]!))); (case hx => exact rfl); (case hy => exact rfl); (case hv => exact rfl); (case hp => exact (by repeat constructor)); (case hr => exact rfl); (case hf => exact inferInstance); (case hk => exact zom); (case hs => exact rfl); (case hq => exact rfl); (case h1 => exact rfl)) | ((with_reducible apply At.storeW (f := cells) (x' := (W[q]!))); (case hx => exact rfl); (case hy => exact rfl); (case hv => exact rfl); (case hp => exact (by repeat constructor)); (case hr => exact rfl); (case hf => exact inferInstance); (case hk => exact zom); (case hs => exact rfl); (case hq => exact rfl); (case h1 => exact rfl)) | (refine zsp ?_ ?_ <;> (intro hc; (try simp only [zhcs, reduceCtorEq] at hc); (try (exfalso; first | omega | contradiction | omega | exact absurd rfl hc | exact absurd (by decide) hc))))))
          all_goals ((with_reducible refine At.reachk ((⟨q + 1, (W.set q (W[q + 1]!)).set (q + 1) (W[q]!)⟩ : NS)) ?_ ?_ ?_ ?_); exact zsubs; exact zml; exact zente; exact ⟨⟨⟨by show a ≤ q + 1; omega, by show q + 1 ≤ i - 1; omega⟩, hN, hQ⟩, by show n - (q + 1) < n - q; omega⟩)
        · have eqi : q = i - 1 := by omega
          subst eqi
          have ek : k = a + 1 := by omega
          subst ek
          have fin : Mg Slot.w a (a + 1) b l W := ⟨fM, fun _ hs => shl_srt (i := i) (by omega) g3 fW hs gA gB⟩
          clear fM fW gA gB
          (repeat' (first | refine zss ?_ | ((first | (with_reducible first | apply At.val | apply AtQ.val)); (exact pr_sub (by rfl) (by rfl) wq); exact rfl) | refine zsO ?_ | (refine zsp ?_ ?_ <;> (intro hc; (try simp only [zhcs, reduceCtorEq] at hc); (try (exfalso; first | omega | contradiction | omega | exact absurd rfl hc | exact absurd (by decide) hc))))))
          all_goals ((first | (with_reducible apply At.retB0 (B := [oS p c W])) | (with_reducible apply At.retR0 (B := [oS p c W]))); exact rfl; exact zml; exact zkp; exact ⟨rfl, rfl, _, fin, rfl⟩)
    by_cases c2 : b - k = 1
    · clear ih
      refine Ct.enterV (by rfl) Tryz.func229 rfl Tryz.ntmps229 rfl (fun w0 Rest => ?_)
      (repeat' (first | refine zss ?_ | ((first | (with_reducible first | apply At.val | apply AtQ.val)); (first | exact pr_sub (by rfl) (by rfl) wi | exact pr_sub (by rfl) (by rfl) wj); exact rfl) | refine zsO ?_ | (refine zsp ?_ ?_ <;> (intro hc; (try simp only [zhcs, reduceCtorEq] at hc); (try (exfalso; first | omega | contradiction | omega | exact absurd rfl hc | exact absurd (by decide) hc))))))
      (refine At.loopk (σ := BSt) [0, 2, 4] (fun s F0 => (14, .int .i64 (s.i : Int)) :: (15, .int .i64 (s.j : Int)) :: F0) (fun s => m) (fun s => oS p c l :: Rest) (fun s => (a ≤ s.i ∧ s.i ≤ s.j ∧ s.j ≤ k) ∧ (a < s.i → l[s.i - 1]!.w ≤ l[k]!.w) ∧ (s.j < k → l[k]!.w < l[s.j]!.w)) (fun s => s.j - s.i) ⟨a, k⟩ (by rfl) ?_ zsubs zml zente ?_)
      · exact ⟨⟨Nat.le_refl _, by show a ≤ k; omega, Nat.le_refl _⟩, fun h => absurd h (Nat.lt_irrefl _), fun h => absurd h (Nat.lt_irrefl _)⟩
      rintro ⟨i, j⟩ ⟨⟨g1, g2, g3⟩, gA, gB⟩
      dsimp only at g1 g2 g3 gA gB ⊢
      by_cases e : i < j
      · obtain ⟨x, hx⟩ : ∃ x, (i + j) / 2 = x := ⟨_, rfl⟩
        obtain ⟨u1, u2, u3, u4, u5, u6⟩ := half i j x hx (by omega)
        have hcm := fun (m : Mem) => sortA (m := m) (l[k]!) (l[x]!)
        by_cases e2 : cmpI l[k]!.w l[x]!.w < 0
        · have q1 := cmpI_lt.1 e2
          generalize cmpI l[k]!.w l[x]!.w = r at hcm e2
          (repeat' (first | ((with_reducible apply At.mixed (id := 5) 11 (.q 0 (.q 1 (.q 2 (.q 3 (.q 4 (.q 5 (.q 6 (.q 7 (.q 8 (.x 9 (.q 10 .done)))))))))))); exact rfl; kernel_rfl; kernel_rfl; kernel_rfl) | ((with_reducible apply At.mixed (id := 11) 18 (.q 0 (.q 1 (.q 2 (.q 3 (.q 4 (.q 5 (.q 6 (.q 7 (.q 8 (.q 9 (.q 10 (.q 11 (.q 12 (.q 13 (.q 14 (.x 15 (.q 16 (.x 17 .done))))))))))))))))))); exact rfl; kernel_rfl; kernel_rfl; kernel_rfl) | ((with_reducible apply At.mixed (id := 17) 12 (.q 0 (.q 1 (.q 2 (.q 3 (.q 4 (.q 5 (.q 6 (.q 7 (.q 8 (.x 9 (.q 10 (.q 11 .done))))))))))))); exact rfl; kernel_rfl; kernel_rfl; kernel_rfl) | ((with_reducible apply At.mixed (id := 23) 18 (.q 0 (.q 1 (.q 2 (.q 3 (.q 4 (.q 5 (.q 6 (.q 7 (.q 8 (.q 9 (.q 10 (.q 11 (.q 12 (.q 13 (.q 14 (.x 15 (.q 16 (.x 17 .done))))))))))))))))))); exact rfl; kernel_rfl; kernel_rfl; kernel_rfl) | ((with_reducible apply At.mixed (id := 35) 14 (.q 0 (.q 1 (.q 2 (.q 3 (.q 4 (.q 5 (.q 6 (.q 7 (.q 8 (.q 9 (.q 10 (.x 11 (.q 12 (.q 13 .done))))))))))))))); exact rfl; kernel_rfl; kernel_rfl; kernel_rfl) | refine zsx ?_ | refine zss ?_ | ((with_reducible apply AtM.bo); exact rfl; exact rfl; exact rfl) | ((first | (with_reducible first | apply At.val | apply AtQ.val) | ((with_reducible first | apply AtM1.valz | apply AtM1.val); exact rfl) | ((with_reducible apply AtM1.val); exact rfl)); (first | exact pr_add (by rfl) (by rfl) u1 | exact pr_add (by rfl) (by rfl) u5 | exact pr_conv ⟨_, rfl⟩ (by rfl) (by rfl) u2 | exact pr_shrv (by rfl) (by rfl) (by omega) (by decide) u3 | exact pr_conv ⟨_, rfl⟩ (by rfl) (by rfl) u4); exact rfl) | refine zsO ?_ | refine zxO ?_ | ((with_reducible apply At.callf); exact rfl; kernel_rfl; exact rfl; exact rfl; exact hcm _; exact ztk; rintro v' m' B' hm' ⟨rfl, rfl, rfl⟩; skip) | (refine zsp ?_ ?_ <;> (intro hc; (try simp only [zhcs, reduceCtorEq] at hc); (try (exfalso; first | omega | contradiction | omega | exact absurd rfl hc | exact absurd (by decide) hc))))))
          all_goals ((with_reducible refine At.reachk ((⟨i, x⟩ : BSt)) ?_ ?_ ?_ ?_); exact zsubs; exact zml; exact zente; exact ⟨⟨⟨g1, by show i ≤ x; omega, by show x ≤ k; omega⟩, gA, fun _ => q1⟩, by show x - i < j - i; omega⟩)
        · have q1 : l[x]!.w ≤ l[k]!.w := Int.not_lt.1 fun h => e2 (cmpI_lt.2 h)
          generalize cmpI l[k]!.w l[x]!.w = r at hcm e2
          (repeat' (first | ((with_reducible apply At.mixed (id := 5) 11 (.q 0 (.q 1 (.q 2 (.q 3 (.q 4 (.q 5 (.q 6 (.q 7 (.q 8 (.x 9 (.q 10 .done)))))))))))); exact rfl; kernel_rfl; kernel_rfl; kernel_rfl) | ((with_reducible apply At.mixed (id := 11) 18 (.q 0 (.q 1 (.q 2 (.q 3 (.q 4 (.q 5 (.q 6 (.q 7 (.q 8 (.q 9 (.q 10 (.q 11 (.q 12 (.q 13 (.q 14 (.x 15 (.q 16 (.x 17 .done))))))))))))))))))); exact rfl; kernel_rfl; kernel_rfl; kernel_rfl) | ((with_reducible apply At.mixed (id := 17) 12 (.q 0 (.q 1 (.q 2 (.q 3 (.q 4 (.q 5 (.q 6 (.q 7 (.q 8 (.x 9 (.q 10 (.q 11 .done))))))))))))); exact rfl; kernel_rfl; kernel_rfl; kernel_rfl) | ((with_reducible apply At.mixed (id := 23) 18 (.q 0 (.q 1 (.q 2 (.q 3 (.q 4 (.q 5 (.q 6 (.q 7 (.q 8 (.q 9 (.q 10 (.q 11 (.q 12 (.q 13 (.q 14 (.x 15 (.q 16 (.x 17 .done))))))))))))))))))); exact rfl; kernel_rfl; kernel_rfl; kernel_rfl) | ((with_reducible apply At.mixed (id := 35) 14 (.q 0 (.q 1 (.q 2 (.q 3 (.q 4 (.q 5 (.q 6 (.q 7 (.q 8 (.q 9 (.q 10 (.x 11 (.q 12 (.q 13 .done))))))))))))))); exact rfl; kernel_rfl; kernel_rfl; kernel_rfl) | refine zsx ?_ | refine zss ?_ | ((with_reducible apply AtM.bo); exact rfl; exact rfl; exact rfl) | ((first | (with_reducible first | apply At.val | apply AtQ.val) | ((with_reducible first | apply AtM1.valz | apply AtM1.val); exact rfl) | ((with_reducible apply AtM1.val); exact rfl)); (first | exact pr_add (by rfl) (by rfl) u1 | exact pr_add (by rfl) (by rfl) u5 | exact pr_conv ⟨_, rfl⟩ (by rfl) (by rfl) u2 | exact pr_shrv (by rfl) (by rfl) (by omega) (by decide) u3 | exact pr_conv ⟨_, rfl⟩ (by rfl) (by rfl) u4); exact rfl) | refine zsO ?_ | refine zxO ?_ | ((with_reducible apply At.callf); exact rfl; kernel_rfl; exact rfl; exact rfl; exact hcm _; exact ztk; rintro v' m' B' hm' ⟨rfl, rfl, rfl⟩; skip) | (refine zsp ?_ ?_ <;> (intro hc; (try simp only [zhcs, reduceCtorEq] at hc); (try (exfalso; first | omega | contradiction | omega | exact absurd rfl hc | exact absurd (by decide) hc))))))
          all_goals ((with_reducible refine At.reachk ((⟨x + 1, j⟩ : BSt)) ?_ ?_ ?_ ?_); exact zsubs; exact zml; exact zente; exact ⟨⟨⟨by show a ≤ x + 1; omega, by show x + 1 ≤ j; omega, g3⟩, fun _ => q1, gB⟩, by show j - (x + 1) < j - i; omega⟩)
      · have eij : i = j := by omega
        subst eij
        (repeat' (first | refine zss ?_ | refine zsO ?_ | (refine zsp ?_ ?_ <;> (intro hc; (try simp only [zhcs, reduceCtorEq] at hc); (try (exfalso; first | omega | contradiction | omega | exact absurd rfl hc | exact absurd (by decide) hc))))))
        (refine At.loopk (σ := NS) [0, 14] (fun s F0 => (17, .int .i64 (s.i : Int)) :: F0) (fun s => m) (fun s => oS p c s.L :: Rest) (fun s => (i ≤ s.i ∧ s.i ≤ k) ∧ Mv a b l s.L ∧ ∀ q, s.L[q]! = shr s.i k (fun q => l[q]!) q) (fun s => s.i) ⟨k, l⟩ (by rfl) ?_ zsubs zml zente ?_)
        · exact ⟨⟨g3, Nat.le_refl _⟩, Mv.refl _ _ _, fun q => (shr_zero k _ q).symm⟩
        rintro ⟨q, W⟩ ⟨⟨f0, f1⟩, fM, fW⟩
        dsimp only at f0 f1 fM fW ⊢
        have f2 : W.length = n := fM.len.trans hn
        by_cases eq : i < q
        · obtain ⟨q, rfl⟩ : ∃ x, q = x + 1 := ⟨q - 1, by omega⟩
          have wq : IntKind.wrap .i64 (((q + 1 : Nat) : Int) - 1) = (q : Int) := by rw [show ((q + 1 : Nat) : Int) - 1 = (q : Int) by omega]; exact IntWalk.i64_in _ (by omega)
          have hN : Mv a b l (swp W (q + 1) q) := fM.trans (Mv.swp (by omega) (by omega) (by omega))
          have hQ : ∀ u, (swp W (q + 1) q)[u]! = shr q k (fun q => l[q]!) u := fun u => by
            rw [swp_get (by omega) (by omega), shr_step (k := q) _ f1, fW, fW, fW]
          clear fM fW gA gB
          unfold swp at hN hQ
          (repeat' (first | ((with_reducible apply At.mixed (id := 5) 11 (.q 0 (.q 1 (.q 2 (.q 3 (.q 4 (.q 5 (.q 6 (.q 7 (.q 8 (.x 9 (.q 10 .done)))))))))))); exact rfl; kernel_rfl; kernel_rfl; kernel_rfl) | ((with_reducible apply At.mixed (id := 11) 18 (.q 0 (.q 1 (.q 2 (.q 3 (.q 4 (.q 5 (.q 6 (.q 7 (.q 8 (.q 9 (.q 10 (.q 11 (.q 12 (.q 13 (.q 14 (.x 15 (.q 16 (.x 17 .done))))))))))))))))))); exact rfl; kernel_rfl; kernel_rfl; kernel_rfl) | ((with_reducible apply At.mixed (id := 17) 12 (.q 0 (.q 1 (.q 2 (.q 3 (.q 4 (.q 5 (.q 6 (.q 7 (.q 8 (.x 9 (.q 10 (.q 11 .done))))))))))))); exact rfl; kernel_rfl; kernel_rfl; kernel_rfl) | ((with_reducible apply At.mixed (id := 23) 18 (.q 0 (.q 1 (.q 2 (.q 3 (.q 4 (.q 5 (.q 6 (.q 7 (.q 8 (.q 9 (.q 10 (.q 11 (.q 12 (.q 13 (.q 14 (.x 15 (.q 16 (.x 17 .done))))))))))))))))))); exact rfl; kernel_rfl; kernel_rfl; kernel_rfl) | ((with_reducible apply At.mixed (id := 35) 14 (.q 0 (.q 1 (.q 2 (.q 3 (.q 4 (.q 5 (.q 6 (.q 7 (.q 8 (.q 9 (.q 10 (.x 11 (.q 12 (.q 13 .done))))))))))))))); exact rfl; kernel_rfl; kernel_rfl; kernel_rfl) | refine zsx ?_ | refine zss ?_ | ((with_reducible apply AtM.bo); exact rfl; exact rfl; exact rfl) | ((first | (with_reducible first | apply At.val | apply AtQ.val) | ((with_reducible first | apply AtM1.valz | apply AtM1.val); exact rfl) | ((with_reducible apply AtM1.val); exact rfl)); (exact pr_sub (by rfl) (by rfl) wq); exact rfl) | refine zsO ?_ | refine zxO ?_ | ((with_reducible apply At.storeW (f := cells) (x' := (W[q]!))); (case hx => exact rfl); (case hy => exact rfl); (case hv => exact rfl); (case hp => exact (by repeat constructor)); (case hr => exact rfl); (case hf => exact inferInstance); (case hk => exact zom); (case hs => exact rfl); (case hq => exact rfl); (case h1 => exact rfl)) | ((with_reducible apply At.storeW (f := cells) (x' := (W[q + 1]!))); (case hx => exact rfl); (case hy => exact rfl); (case hv => exact rfl); (case hp => exact (by repeat constructor)); (case hr => exact rfl); (case hf => exact inferInstance); (case hk => exact zom); (case hs => exact rfl); (case hq => exact rfl); (case h1 => exact rfl)) | (refine zsp ?_ ?_ <;> (intro hc; (try simp only [zhcs, reduceCtorEq] at hc); (try (exfalso; first | omega | contradiction | omega | exact absurd rfl hc | exact absurd (by decide) hc))))))
          all_goals ((with_reducible refine At.reachk ((⟨q, (W.set (q + 1) (W[q]!)).set q (W[q + 1]!)⟩ : NS)) ?_ ?_ ?_ ?_); exact zsubs; exact zml; exact zente; exact ⟨⟨⟨by show i ≤ q; omega, by show q ≤ k; omega⟩, hN, hQ⟩, by show q < q + 1; omega⟩)
        · have eqi : q = i := by omega
          subst eqi
          have eb : b = k + 1 := by omega
          subst eb
          have fin : Mg Slot.w a k (k + 1) l W := ⟨fM, fun hs _ => shr_srt (i := q) (m := k) g1 f1 fW hs gA gB⟩
          clear fM fW gA gB
          (repeat' (first | refine zss ?_ | refine zsO ?_ | (refine zsp ?_ ?_ <;> (intro hc; (try simp only [zhcs, reduceCtorEq] at hc); (try (exfalso; first | omega | contradiction | omega | exact absurd rfl hc | exact absurd (by decide) hc))))))
          all_goals ((first | (with_reducible apply At.retB0 (B := [oS p c W])) | (with_reducible apply At.retR0 (B := [oS p c W]))); exact rfl; exact zml; exact zkp; exact ⟨rfl, rfl, _, fin, rfl⟩)
    exact symG p c n d a k b l hl hd hn h1 h2 hb c1 c2 wi wj ih
theorem same_blk {w a i j : Nat} (ha : a % w = 0) (h1 : a ≤ i) (h2 : i < a + w) (h3 : a ≤ j) (h4 : j < a + w) : i / w = j / w := by
  have e := Nat.div_add_mod a w
  rw [ha, Nat.add_zero, Nat.mul_comm] at e
  have k1 : i / w = a / w := Nat.div_eq_of_lt_le (by omega) (by rw [Nat.succ_mul]; omega)
  have k2 : j / w = a / w := Nat.div_eq_of_lt_le (by omega) (by rw [Nat.succ_mul]; omega)
  rw [k1, k2]
theorem blk_ge {w a i j : Nat} (hw : 0 < w) (ha : a % w = 0) (h : a ≤ j) (e : i / w = j / w) : a ≤ i := by
  have e1 := Nat.div_add_mod a w
  rw [ha, Nat.add_zero, Nat.mul_comm] at e1
  have k1 : a / w ≤ j / w := Nat.div_le_div_right h
  rw [← e] at k1
  have := (Nat.le_div_iff_mul_le hw).1 k1
  omega
def B0 (n : Nat) (l : List Slot) (a : Nat) (L : List Slot) : Prop := L.length = n ∧ L.Perm l ∧ ∀ i j, i < j → j < a → i / 20 = j / 20 → L[i]!.w ≤ L[j]!.w
def B1 (n : Nat) (l : List Slot) (w : Nat) (L : List Slot) : Prop := L.length = n ∧ L.Perm l ∧ Blk Slot.w w L
def B2 (n : Nat) (l : List Slot) (w a : Nat) (L : List Slot) : Prop := L.length = n ∧ L.Perm l ∧ Two Slot.w a w L
theorem b0_step {n : Nat} {l L M : List Slot} {a b : Nat} (h : B0 n l a L) (ha : a % 20 = 0) (hM : Mv a b L M) (hS : Srt Slot.w a b M) : B0 n l b M :=
  ⟨hM.len.trans h.1, hM.perm.trans h.2.1, fun i j h1 h2 h3 => by
    by_cases hj : j < a
    · rw [hM.out i (.inl (by omega)), hM.out j (.inl hj)]; exact h.2.2 i j h1 hj h3
    · exact hS i j (blk_ge (by decide) ha (by omega) h3) h1 h2⟩
theorem b2_step {n w : Nat} {l L M : List Slot} {a b : Nat} (h : B2 n l w a L) (hw : 0 < w) (ha : a % (2 * w) = 0) (hb : b = a + 2 * w ∨ b = n) (hbn : b ≤ n) (h1 : a + w < b) (h2 : b ≤ a + 2 * w) (hM : Mg Slot.w a (a + w) b L M) : B2 n l w b M := by
  have ha2 : a % w = 0 := Nat.mod_eq_zero_of_dvd (Nat.dvd_trans (Nat.dvd_mul_left w 2) (Nat.dvd_of_mod_eq_zero ha))
  have ha3 : (a + w) % w = 0 := by rw [Nat.add_mod_right, ha2]
  have hS : Srt Slot.w a b M := hM.2 (fun i j i1 i2 i3 => h.2.2.2 i j i1 i2 (by rw [h.1]; omega) (same_blk ha2 i1 (by omega) (by omega) i3)) (fun i j i1 i2 i3 => h.2.2.2 i j (by omega) i2 (by rw [h.1]; omega) (same_blk ha3 i1 (by omega) (by omega) (by omega)))
  refine ⟨hM.1.len.trans h.1, hM.1.perm.trans h.2.1, fun i j i1 i2 i3 => ?_, fun i j i1 i2 i3 i4 => ?_⟩
  · by_cases hj : j < a
    · rw [hM.1.out i (.inl (by omega)), hM.1.out j (.inl hj)]; exact h.2.2.1 i j i1 hj i3
    · exact hS i j (blk_ge (by omega) ha (by omega) i3) i1 i2
  · rw [hM.1.out i (.inr i1), hM.1.out j (.inr (by omega))]
    rw [hM.1.len] at i3
    exact h.2.2.2 i j (by omega) i2 i3 i4
theorem b2_end {n w a : Nat} {l L : List Slot} (h : B2 n l w a L) (hw : 0 < w) (ha : a % (2 * w) = 0) (h1 : n ≤ a + w) : B1 n l (w * 2) L := by
  have ha2 : a % w = 0 := Nat.mod_eq_zero_of_dvd (Nat.dvd_trans (Nat.dvd_mul_left w 2) (Nat.dvd_of_mod_eq_zero ha))
  refine ⟨h.1, h.2.1, fun i j i1 i2 i3 => ?_⟩
  rw [Nat.mul_comm w 2] at i3
  have hln := h.1
  by_cases hj : j < a
  · exact h.2.2.1 i j i1 hj i3
  · have hi := blk_ge (by omega) ha (show a ≤ j by omega) i3
    exact h.2.2.2 i j hi i1 i2 (same_blk ha2 hi (by omega) (by omega) (by omega))
theorem b2_all {n w : Nat} {l L : List Slot} (h : B2 n l w n L) : B1 n l (w * 2) L :=
  ⟨h.1, h.2.1, fun i j i1 i2 i3 => by rw [Nat.mul_comm w 2] at i3; exact h.2.2.1 i j i1 (h.1 ▸ i2) i3⟩
theorem b1_two {n w : Nat} {l L : List Slot} (h : B1 n l w L) : B2 n l w 0 L := ⟨h.1, h.2.1, fun i j _ h2 _ => absurd h2 (Nat.not_lt_zero _), fun i j _ h2 h3 h4 => h.2.2 i j h2 h3 h4⟩
theorem b0_one {n : Nat} {l L : List Slot} (h : B0 n l n L) : B1 n l 20 L := ⟨h.1, h.2.1, fun i j h1 h2 h3 => h.2.2 i j h1 (h.1 ▸ h2) h3⟩
theorem b1_srt {n w : Nat} {l L : List Slot} (h : B1 n l w L) (hw : n ≤ w) : L.Perm l ∧ Srt Slot.w 0 n L := ⟨h.2.1, fun i j _ h2 h3 => h.2.2 i j h2 (h.1.symm ▸ h3) (by rw [Nat.div_eq_of_lt (by omega), Nat.div_eq_of_lt (by omega)])⟩
set_option maxHeartbeats 2000000 in
theorem stableG {m : Mem} (p : Option Addr) (c n : Nat) (l : List Slot) (hn : l.length = n) (hl : n ≤ 1000000) :
    Ct Tryz.prog 225 #[.slice p n c, .int .i64 (n : Int), fnS] m [N p c (fun L => L = l)] (fun v m' B => v = .tuple #[] ∧ m = m' ∧ B = [N p c (fun L => L.Perm l ∧ Srt Slot.w 0 n L)]) := by
  have r1 := fun {m : Mem} (a b : Nat) (ha : a ≤ n) (hb : b ≤ n) (ha2 : a % 20 = 0) => toN (m := m) (p := p) (c := c) (Φ := B0 n l a) (Ψ := B0 n l b) fun L hL => postR_mono (fun M hM => b0_step hL ha2 hM.1 hM.2) (insG p c a b n L hL.1 hb ha hl)
  have r2 := fun {m : Mem} (w a b : Nat) (hw : 0 < w) (ha : a % (2 * w) = 0) (hb : b = a + 2 * w ∨ b = n) (h1 : a + w < b) (h2 : b ≤ a + 2 * w) (h3 : b ≤ n) => toN (m := m) (p := p) (c := c) (Φ := B2 n l w a) (Ψ := B2 n l w b) fun L hL => postR_mono (fun M hM => b2_step hL hw ha hb h3 h1 h2 hM) (symM p c n hl (b - a) a (a + w) b L (Nat.le_refl _) hL.1 (by omega) h1 h3)
  have z0 : ∀ L, L = l → B0 n l 0 L := fun L hL => by subst hL; exact ⟨hn, List.Perm.refl _, fun i j _ h _ => absurd h (Nat.not_lt_zero _)⟩
  refine Ct.enterV (by rfl) Tryz.func225 rfl Tryz.ntmps225 rfl (fun w0 Rest => ?_)
  (repeat' (first | refine zss ?_ | refine zsO ?_ | (refine zsp ?_ ?_ <;> (intro hc; (try simp only [zhcs, reduceCtorEq] at hc); (try (exfalso; first | contradiction | omega | exact absurd rfl hc | exact absurd (by decide) hc))))))
  refine At.ent (N.mono z0 _) ?_
  (refine At.loopk (σ := Nat) [0, 1, 2, 6] (fun s F0 => (7, .int .i64 (s : Int)) :: (8, .int .i64 ((s + 20 : Nat) : Int)) :: F0) (fun s => m) (fun s => N p c (B0 n l s) :: Rest) (fun s => s ≤ n ∧ s % 20 = 0) (fun s => n - s) 0 (by rfl) ?_ zsubs zml zente ?_)
  · exact ⟨Nat.zero_le _, rfl⟩
  rintro a ⟨ha, ha2⟩
  by_cases h : a + 20 ≤ n
  · (repeat' (first | refine zss ?_ | refine zsO ?_ | ((with_reducible first | apply At.c1 | apply At.c0); exact rfl; exact rfl; exact r1 a (a + 20) (by omega) h ha2; exact ztk; kernel_rfl; rintro v' m' B' hm' ⟨rfl, rfl, rfl⟩; skip; (try (have hq0 : hm' = Mem.le_refl _ := rfl; clear hq0 hm'))) | (refine zsp ?_ ?_ <;> (intro hc; (try simp only [zhcs, reduceCtorEq] at hc); (try (exfalso; first | omega | contradiction | omega | exact absurd rfl hc | exact absurd (by decide) hc))))))
    all_goals ((with_reducible refine At.reachk ((a + 20)) ?_ ?_ ?_ ?_); exact zsubs; exact zml; exact zente; exact ⟨⟨h, by omega⟩, by omega⟩)
  · (repeat' (first | refine zss ?_ | refine zsO ?_ | ((with_reducible first | apply At.c1 | apply At.c0); exact rfl; exact rfl; exact r1 a n ha (Nat.le_refl _) ha2; exact ztk; kernel_rfl; rintro v' m' B' hm' ⟨rfl, rfl, rfl⟩; skip; (try (have hq0 : hm' = Mem.le_refl _ := rfl; clear hq0 hm'))) | (refine zsp ?_ ?_ <;> (intro hc; (try simp only [zhcs, reduceCtorEq] at hc); (try (exfalso; first | omega | contradiction | omega | exact absurd rfl hc | exact absurd (by decide) hc))))))
    refine At.ent (N.mono (fun L hL => b0_one hL) _) ?_
    (refine At.loopk (σ := Nat) [0, 1, 2] (fun s F0 => (6, .int .i64 (s : Int)) :: F0) (fun s => m) (fun s => N p c (B1 n l s) :: Rest) (fun s => 20 ≤ s ∧ s ≤ 3000000) (fun s => 3000000 - s) 20 (by rfl) ?_ zsubs zml zente ?_)
    · exact ⟨by omega, by omega⟩
    rintro w ⟨w1, w2⟩
    by_cases h2 : w < n
    · have hw2 : IntKind.wrap .i64 (2 * (w : Int)) = ((2 * w : Nat) : Int) := by rw [show 2 * (w : Int) = ((2 * w : Nat) : Int) by omega]; exact IntWalk.i64_in _ (by omega)
      have hw3 : IntKind.wrap .i64 ((w : Int) * 2) = ((w * 2 : Nat) : Int) := by rw [show (w : Int) * 2 = ((w * 2 : Nat) : Int) by omega]; exact IntWalk.i64_in _ (by omega)
      refine At.ent (N.mono (fun L hL => b1_two hL) _) ?_
      (repeat' (first | refine zss ?_ | ((first | (with_reducible first | apply At.val | apply AtQ.val)); (exact pr_mul (by rfl) (by rfl) hw2); exact rfl) | refine zsO ?_ | (refine zsp ?_ ?_ <;> (intro hc; (try simp only [zhcs, reduceCtorEq] at hc); (try (exfalso; first | omega | contradiction | omega | exact absurd rfl hc | exact absurd (by decide) hc))))))
      (refine At.loopk (σ := Nat) [0, 1, 2, 6] (fun s F0 => (7, .int .i64 (s : Int)) :: (8, .int .i64 ((s + 2 * w : Nat) : Int)) :: F0) (fun s => m) (fun s => N p c (B2 n l w s) :: Rest) (fun s => s ≤ n ∧ s % (2 * w) = 0) (fun s => n - s) 0 (by rfl) ?_ zsubs zml zente ?_)
      · exact ⟨Nat.zero_le _, Nat.zero_mod _⟩
      rintro b ⟨hb, hb2⟩
      have g1 : IntKind.wrap .i64 ((b : Int) + (w : Int)) = ((b + w : Nat) : Int) := by rw [← Int.natCast_add]; exact IntWalk.i64_in _ (by omega)
      by_cases h3 : b + 2 * w ≤ n
      · have g2 : IntKind.wrap .i64 (((b + 2 * w : Nat) : Int) + ((2 * w : Nat) : Int)) = ((b + 2 * w + 2 * w : Nat) : Int) := by rw [← Int.natCast_add]; exact IntWalk.i64_in _ (by omega)
        have hb3 : (b + 2 * w) % (2 * w) = 0 := by rw [Nat.add_mod_right, hb2]
        have kk := fun {m : Mem} => r2 (m := m) w b (b + 2 * w) (by omega) hb2 (.inl rfl) (by omega) (Nat.le_refl _) h3
        clear r1 r2
        (repeat' (first | refine zss ?_ | ((first | (with_reducible first | apply At.val | apply AtQ.val)); (first | exact pr_add (by rfl) (by rfl) g1 | exact pr_mul (by rfl) (by rfl) hw2 | exact pr_add (by rfl) (by rfl) g2); exact rfl) | refine zsO ?_ | ((with_reducible first | apply At.c1 | apply At.c0); exact rfl; exact rfl; exact kk; exact ztk; kernel_rfl; rintro v' m' B' hm' ⟨rfl, rfl, rfl⟩; skip; (try (have hq0 : hm' = Mem.le_refl _ := rfl; clear hq0 hm'))) | (refine zsp ?_ ?_ <;> (intro hc; (try simp only [zhcs, reduceCtorEq] at hc); (try (exfalso; first | omega | contradiction | omega | exact absurd rfl hc | exact absurd (by decide) hc))))))
        all_goals ((with_reducible refine At.reachk ((b + 2 * w)) ?_ ?_ ?_ ?_); exact zsubs; exact zml; exact zente; exact ⟨⟨h3, hb3⟩, by omega⟩)
      · by_cases h4 : b + w < n
        · have kk := fun {m : Mem} => r2 (m := m) w b n (by omega) hb2 (.inr rfl) h4 (by omega) (Nat.le_refl _)
          clear r1 r2
          (repeat' (first | refine zss ?_ | ((first | (with_reducible first | apply At.val | apply AtQ.val)); (first | exact pr_add (by rfl) (by rfl) g1 | exact pr_mul (by rfl) (by rfl) hw3); exact rfl) | refine zsO ?_ | ((with_reducible first | apply At.c1 | apply At.c0); exact rfl; exact rfl; exact kk; exact ztk; kernel_rfl; rintro v' m' B' hm' ⟨rfl, rfl, rfl⟩; skip; (try (have hq0 : hm' = Mem.le_refl _ := rfl; clear hq0 hm'))) | (refine zsp ?_ ?_ <;> (intro hc; (try simp only [zhcs, reduceCtorEq] at hc); (try (exfalso; first | omega | contradiction | omega | exact absurd rfl hc | exact absurd (by decide) hc))))))
          all_goals refine At.ent (N.mono (fun L hL => b2_all hL) _) ?_
          all_goals ((with_reducible refine At.reachk ((w * 2)) ?_ ?_ ?_ ?_); exact zsubs; exact zml; exact zente; exact ⟨⟨by omega, by omega⟩, by omega⟩)
        · have ze : ∀ L, B2 n l w b L → B1 n l (w * 2) L := fun L hL => b2_end hL (by omega) hb2 (by omega)
          clear r1 r2
          refine At.ent (N.mono ze _) ?_
          (repeat' (first | refine zss ?_ | ((first | (with_reducible first | apply At.val | apply AtQ.val)); (first | exact pr_add (by rfl) (by rfl) g1 | exact pr_mul (by rfl) (by rfl) hw3); exact rfl) | refine zsO ?_ | (refine zsp ?_ ?_ <;> (intro hc; (try simp only [zhcs, reduceCtorEq] at hc); (try (exfalso; first | omega | contradiction | omega | exact absurd rfl hc | exact absurd (by decide) hc))))))
          all_goals ((with_reducible refine At.reachk ((w * 2)) ?_ ?_ ?_ ?_); exact zsubs; exact zml; exact zente; exact ⟨⟨by omega, by omega⟩, by omega⟩)
    · refine At.ent (N.mono (fun L hL => b1_srt hL (by omega)) _) ?_
      clear r1 r2
      (repeat' (first | refine zss ?_ | refine zsO ?_ | (refine zsp ?_ ?_ <;> (intro hc; (try simp only [zhcs, reduceCtorEq] at hc); (try (exfalso; first | omega | contradiction | omega | exact absurd rfl hc | exact absurd (by decide) hc))))))
      all_goals ((first | (with_reducible apply At.retB0 (B := [N p c _])) | (with_reducible apply At.retR0 (B := [N p c _]))); exact rfl; exact zml; exact zkp; exact ⟨rfl, rfl, rfl⟩)
theorem sortF {m : Mem} (p : Option Addr) (c n : Nat) (l : List Slot) (hn : l.length = n) (hl : n ≤ 1000000) :
    Ct Tryz.prog 210 #[.slice p n c, fnS] m [oS p c l] (fun v m' B => PostR p c (fun L => L.Perm l ∧ Srt Slot.w 0 n L) v m m' B) := by
  have hin := fun (m : Mem) => stableG (m := m) p c n l hn hl
  refine Ct.enterV (by rfl) Tryz.func210 rfl Tryz.ntmps210 rfl (fun w0 Rest => ?_)
  refine At.ent (N.close (Φ := fun L => L = l) rfl _) ?_
  (repeat' (first | refine zss ?_ | refine zsO ?_ | ((with_reducible first | apply At.c1 | apply At.c0); exact rfl; exact rfl; exact hin _; exact ztk; kernel_rfl; rintro v' m' B' hm' ⟨rfl, rfl, rfl⟩; skip; (try (have hq0 : hm' = Mem.le_refl _ := rfl; clear hq0 hm'))) | (refine zsp ?_ ?_ <;> (intro hc; (try simp only [zhcs, reduceCtorEq] at hc); (try (exfalso; first | contradiction | omega | exact absurd rfl hc | exact absurd (by decide) hc))))))
  all_goals refine N.open (p := p) (c := c) (by repeat constructor) fun L hL => ?_
  all_goals ((first | (with_reducible apply At.retB0 (B := [oS p c L])) | (with_reducible apply At.retR0 (B := [oS p c L]))); exact rfl; exact zml; exact zkp; exact ⟨rfl, rfl, _, hL, rfl⟩)
end So
end Go.Proofs.YtkoijdmlehkhbaaGreatDoor
namespace Go.Proofs.YtkoijdmlehkhbaaGreatDoor
open Go Go.J
attribute [local irreducible] At AtQ AtM AtM1 PR Ct Pu Rd Res.blk Res.own Res.ex RVs RV
namespace Ti
open Slot Win
abbrev oS := So.oS
abbrev fnN : Value := .func (.func 209) #[] #[]
theorem clone {m : Mem} (p : Option Addr) (c : Nat) (l : List Slot) (hl : l.length ≤ 1000000) (sl0 : Sl m cells 15 p c l) :
    Ct Tryz.prog 208 #[.slice p l.length c] m [] (fun v m' B => m = m' ∧ ∃ p2 c2, v = .slice p2 l.length c2 ∧ B = [oS p2 c2 l]) := by
  cases p with
  | none =>
    have h0 : l = [] := List.eq_nil_of_length_eq_zero (by have := sl0.nil rfl; have := sl0.le; omega)
    subst h0
    refine Ct.enterV (by rfl) Tryz.func208 rfl Tryz.ntmps208 rfl (fun w0 Rest => ?_)
    (repeat' (first | refine zss ?_ | ((first | (with_reducible first | apply At.val | apply AtQ.val)); (exact pr_sleql (by rfl) (by rfl) (by rfl)); exact rfl) | refine zsM ?_ | (refine zsp ?_ ?_ <;> (intro hc; (try simp only [zhcs, reduceCtorEq] at hc); (try (exfalso; first | contradiction | omega | exact absurd rfl hc | exact absurd (by decide) hc))))))
    all_goals refine At.own_nil cells 15 61 ?_
    all_goals ((with_reducible apply At.retB1 (B := [oS _ _ _])); exact rfl; exact rfl; exact zml; exact zkp; exact ⟨rfl, _, _, rfl, rfl⟩)
  | some a =>
    refine Ct.enterV (by rfl) Tryz.func208 rfl Tryz.ntmps208 rfl (fun w0 Rest => ?_)
    (repeat' (first | refine zss ?_ | ((first | (with_reducible first | apply At.val | apply AtQ.val)); (exact pr_sleql (by rfl) (by rfl) (by rfl)); exact rfl) | refine zsM ?_ | ((with_reducible apply At.lit cells ([] : List Slot)); exact inferInstance; (iterate 7 exact rfl); intro _) | ((with_reducible apply At.apW (f := cells)); exact rfl; exact rfl; exact (by repeat constructor); exact inferInstance; exact zrdl; (iterate 4 exact rfl); exact zom; exact rfl; intro _ _) | (refine zsp ?_ ?_ <;> (intro hc; (try simp only [zhcs, reduceCtorEq] at hc); (try (exfalso; first | contradiction | omega | exact absurd rfl hc | exact absurd (by decide) hc))))))
    all_goals ((with_reducible apply At.retB1 (B := [oS _ _ _])); exact rfl; exact rfl; exact zml; exact zkp; exact ⟨rfl, _, _, rfl, rfl⟩)
theorem none1 {m : Mem} (s : Slot) (b : Bool) (h : (!keep s) = b) : Ct Tryz.prog 209 #[s.v] m [] (fun v m' B => v = .bool b ∧ m = m' ∧ B = []) := by
  have k := none_ s
  unfold keep at h
  rw [Bool.not_not] at h
  rw [h] at k
  exact Pu.ct k m
theorem indexF {m : Mem} (p : Option Addr) (c : Nat) (l : List Slot) (hl : l.length ≤ 1000000) :
    Ct Tryz.prog 224 #[.slice p l.length c, fnN] m [oS p c l] (fun v m' B => m = m' ∧ B = [oS p c l] ∧
      ((v = .int .i64 (-1) ∧ ∀ i, i < l.length → keep (l[i]!) = true) ∨ (∃ k : Nat, v = .int .i64 (k : Int) ∧ k < l.length ∧ keep (l[k]!) = false ∧ ∀ i, i < k → keep (l[i]!) = true))) := by
  refine Ct.enterV (by rfl) Tryz.func224 rfl Tryz.ntmps224 rfl (fun w0 Rest => ?_)
  (repeat' (first | refine zss ?_ | refine zsO ?_ | (refine zsp ?_ ?_ <;> (intro hc; (try simp only [zhcs, reduceCtorEq] at hc); (try (exfalso; first | contradiction | omega | exact absurd rfl hc | exact absurd (by decide) hc))))))
  (refine At.loopk (σ := Nat) [0, 1, 7] (fun s F0 => (8, .int .i64 (s : Int)) :: F0) (fun s => m) (fun s => oS p c l :: Rest) (fun s => s ≤ l.length ∧ ∀ i, i < s → keep (l[i]!) = true) (fun s => l.length - s) 0 (by rfl) ?_ zsubs zml zente ?_)
  · exact ⟨Nat.zero_le _, fun i h => absurd h (Nat.not_lt_zero i)⟩
  rintro s ⟨hs, hn⟩
  by_cases h : s < l.length
  · cases hk : keep (l[s]!)
    · (repeat' (first | refine zss ?_ | refine zsO ?_ | ((with_reducible apply At.callf); exact rfl; kernel_rfl; exact rfl; exact rfl; exact none1 (l[s]!) true (by rw [hk]; rfl); exact ztk; rintro v' m' B' hm' ⟨rfl, rfl, rfl⟩; skip) | (refine zsp ?_ ?_ <;> (intro hc; (try simp only [zhcs, reduceCtorEq] at hc); (try (exfalso; first | omega | contradiction | omega | exact absurd rfl hc | exact absurd (by decide) hc))))))
      all_goals ((with_reducible apply At.retB1 (B := [oS p c l])); exact rfl; exact rfl; exact zml; exact zkp; exact ⟨rfl, rfl, .inr ⟨s, rfl, h, hk, hn⟩⟩)
    · (repeat' (first | refine zss ?_ | refine zsO ?_ | ((with_reducible apply At.callf); exact rfl; kernel_rfl; exact rfl; exact rfl; exact none1 (l[s]!) false (by rw [hk]; rfl); exact ztk; rintro v' m' B' hm' ⟨rfl, rfl, rfl⟩; skip) | (refine zsp ?_ ?_ <;> (intro hc; (try simp only [zhcs, reduceCtorEq] at hc); (try (exfalso; first | omega | contradiction | omega | exact absurd rfl hc | exact absurd (by decide) hc))))))
      all_goals ((with_reducible refine At.reachk (s + 1) ?_ ?_ ?_ ?_); exact zsubs; exact zml; exact zente; exact ⟨⟨h, fun i hi => by rcases Nat.lt_succ_iff_lt_or_eq.1 hi with hi | rfl; exact hn i hi; exact hk⟩, by omega⟩)
  · (repeat' (first | refine zss ?_ | refine zsO ?_ | (refine zsp ?_ ?_ <;> (intro hc; (try simp only [zhcs, reduceCtorEq] at hc); (try (exfalso; first | omega | contradiction | omega | exact absurd rfl hc | exact absurd (by decide) hc))))))
    all_goals ((with_reducible apply At.retB1 (B := [oS p c l])); exact rfl; exact rfl; exact zml; exact zkp; exact ⟨rfl, rfl, .inl ⟨rfl, fun i hi => hn i (by omega)⟩⟩)
theorem deleteF {m : Mem} (p : Option Addr) (c : Nat) (l : List Slot) (hl : l.length ≤ 1000000) :
    Ct Tryz.prog 207 #[.slice p l.length c, fnN] m [oS p c l] (fun v m' B => m = m' ∧ ∃ p2 c2, v = .slice p2 (l.filter keep).length c2 ∧ B = [oS p2 c2 (l.filter keep)]) := by
  by_cases hall : ∀ i, i < l.length → keep (l[i]!) = true
  · rw [all_filt hall]
    have hi : Ct Tryz.prog 224 #[.slice p l.length c, fnN] m [oS p c l] (fun v m' B => m = m' ∧ B = [oS p c l] ∧ v = .int .i64 (-1)) :=
      (indexF p c l hl).mono fun v m' B _ ⟨h1, h2, h3⟩ => ⟨h1, h2, by
        rcases h3 with ⟨h4, _⟩ | ⟨k, _, hk, h5, _⟩
        · exact h4
        · rw [hall k hk] at h5; cases h5⟩
    refine Ct.enterV (by rfl) Tryz.func207 rfl Tryz.ntmps207 rfl (fun w0 Rest => ?_)
    (repeat' (first | refine zss ?_ | refine zsO ?_ | ((with_reducible first | apply At.c1 | apply At.c0); exact rfl; exact rfl; exact hi; exact ztk; kernel_rfl; rintro v' m' B' hm' ⟨rfl, rfl, rfl⟩; skip; (try (have hq0 : hm' = Mem.le_refl _ := rfl; clear hq0 hm'))) | ((with_reducible apply At.alloc (d := 7)); exact rfl; exact rfl; intro b7) | (refine zsp ?_ ?_ <;> (intro hc; (try simp only [zhcs, reduceCtorEq] at hc); (try (exfalso; first | omega | contradiction | omega | exact absurd rfl hc | exact absurd (by decide) hc))))))
    all_goals ((with_reducible apply At.retB1 (B := [oS _ _ l])); exact rfl; exact rfl; exact zml; exact zkp; exact ⟨rfl, _, _, rfl, rfl⟩)
  · have hi : Ct Tryz.prog 224 #[.slice p l.length c, fnN] m [oS p c l] (fun v m' B => m = m' ∧ B = [oS p c l] ∧ ∃ k : Nat, v = .int .i64 (k : Int) ∧ k < l.length ∧ keep (l[k]!) = false ∧ ∀ i, i < k → keep (l[i]!) = true) :=
      (indexF p c l hl).mono fun v m' B _ ⟨h1, h2, h3⟩ => ⟨h1, h2, by
        rcases h3 with ⟨_, h4⟩ | h4
        · exact absurd h4 hall
        · exact h4⟩
    refine Ct.enterV (by rfl) Tryz.func207 rfl Tryz.ntmps207 rfl (fun w0 Rest => ?_)
    (repeat' (first | refine zss ?_ | refine zsO ?_ | ((with_reducible first | apply At.c1 | apply At.c0); exact rfl; exact rfl; exact hi; exact ztk; kernel_rfl; rintro v' m' B' hm' ⟨rfl, rfl, k, rfl, hk1, hk2, hk3⟩; skip; (try (have hq0 : hm' = Mem.le_refl _ := rfl; clear hq0 hm'))) | ((with_reducible apply At.alloc (d := 7)); exact rfl; exact rfl; intro b7) | (refine zsp ?_ ?_ <;> (intro hc; (try simp only [zhcs, reduceCtorEq] at hc); (try (exfalso; first | omega | contradiction | omega | exact absurd rfl hc | exact absurd (by decide) hc))))))
    (refine At.loopk (σ := DS Slot) [0, 1] (fun s F0 => (5, .int .i64 (s.i : Int)) :: (6, .int .i64 (s.j : Int)) :: F0) (fun s => m) (fun s => oS p c s.L :: Rest) (fun s => dinv keep l s) (fun s => l.length - s.j) ⟨k, k + 1, l⟩ (by rfl) ?_ zsubs zml zente ?_)
    · refine ⟨Nat.lt_succ_self k, hk1, rfl, ?_, rfl⟩
      show l.take k = (l.take (k + 1)).filter _
      rw [filt_snoc _ l k hk1, if_neg (by rw [hk2]; decide), List.append_nil, all_filt]
      intro i hi
      rw [List.length_take] at hi
      have := hk3 i (by omega)
      rw [getElem!_pos (l.take k) i (by rw [List.length_take]; exact hi), List.getElem_take]
      rwa [getElem!_pos l i (by omega)] at this
    rintro s hd
    have hd' := hd
    obtain ⟨d1, d2, d3, d4, d5⟩ := hd'
    rw [← d3]
    by_cases h : s.j < l.length
    · have hg := hd.get h
      have h' : s.j < s.L.length := by omega
      cases hk : keep (l[s.j]!) with
      | true =>
        have hy := hd.yes h hk
        rw [← hg] at hk hy
        (repeat' (first | refine zss ?_ | refine zsO ?_ | ((with_reducible apply At.callf); exact rfl; kernel_rfl; exact rfl; exact rfl; exact none1 (s.L[s.j]!) false (by rw [hk]; rfl); exact ztk; rintro v' m' B' hm' ⟨rfl, rfl, rfl⟩; skip) | ((with_reducible apply At.storeW (f := cells) (x' := (s.L[s.j]!))); (case hx => exact rfl); (case hy => exact rfl); (case hv => exact rfl); (case hp => exact (by repeat constructor)); (case hr => exact rfl); (case hf => exact inferInstance); (case hk => exact zom); (case hs => exact rfl); (case hq => exact rfl); (case h1 => exact rfl)) | ((with_reducible apply At.alloc (d := 7)); exact rfl; exact rfl; intro b7) | (refine zsp ?_ ?_ <;> (intro hc; (try simp only [zhcs, reduceCtorEq] at hc); (try (exfalso; first | omega | contradiction | omega | exact absurd rfl hc | exact absurd (by decide) hc))))))
        all_goals ((with_reducible refine At.reachk ((⟨s.i + 1, s.j + 1, s.L.set s.i (s.L[s.j]!)⟩ : DS Slot)) ?_ ?_ ?_ ?_); exact zsubs; exact zml; exact zente; exact ⟨hy, Nat.sub_lt_sub_left h' (Nat.lt_succ_self s.j)⟩)
      | false =>
        have hy := hd.no h hk
        rw [← hg] at hk
        (repeat' (first | refine zss ?_ | refine zsO ?_ | ((with_reducible apply At.callf); exact rfl; kernel_rfl; exact rfl; exact rfl; exact none1 (s.L[s.j]!) true (by rw [hk]; rfl); exact ztk; rintro v' m' B' hm' ⟨rfl, rfl, rfl⟩; skip) | ((with_reducible apply At.alloc (d := 7)); exact rfl; exact rfl; intro b7) | (refine zsp ?_ ?_ <;> (intro hc; (try simp only [zhcs, reduceCtorEq] at hc); (try (exfalso; first | omega | contradiction | omega | exact absurd rfl hc | exact absurd (by decide) hc))))))
        all_goals ((with_reducible refine At.reachk ((⟨s.i, s.j + 1, s.L⟩ : DS Slot)) ?_ ?_ ?_ ?_); exact zsubs; exact zml; exact zente; exact ⟨hy, Nat.sub_lt_sub_left h' (Nat.lt_succ_self s.j)⟩)
    · have hj : l.take s.j = l := List.take_of_length_le (by omega)
      rw [hj] at d4
      have hlen : (s.L.take s.i).length = s.i := by rw [List.length_take]; omega
      have hcl : s.i ≤ s.L.length := by omega
      rw [← d4, hlen]
      (repeat' (first | refine zss ?_ | refine zsO ?_ | ((with_reducible apply At.alloc (d := 7)); exact rfl; exact rfl; intro b7) | (refine zsp ?_ ?_ <;> (intro hc; (try simp only [zhcs, reduceCtorEq] at hc); (try (exfalso; first | omega | contradiction | omega | exact absurd rfl hc | exact absurd (by decide) hc))))))
      refine At.clearW (f := cells) (l := s.L) s.i (by rfl) (by repeat constructor) rfl inferInstance (by rfl) (by rfl) (by rfl) hcl rfl rfl ?_
      (repeat' (first | refine zss ?_ | ((first | (with_reducible first | apply At.val | apply AtQ.val)); (exact pr_slice_own (by rfl) (by rfl) (by repeat constructor) hlen (by rfl) (by rfl)); exact rfl) | refine zsO ?_ | ((with_reducible apply At.alloc (d := 7)); exact rfl; exact rfl; intro b7) | (refine zsp ?_ ?_ <;> (intro hc; (try simp only [zhcs, reduceCtorEq] at hc); (try (exfalso; first | omega | contradiction | omega | exact absurd rfl hc | exact absurd (by decide) hc))))))
      all_goals ((with_reducible apply At.retB1 (B := [oS _ _ _])); exact rfl; exact rfl; exact zml; exact zkp; exact ⟨rfl, p, c, by rw [subp0]; rfl, rfl⟩)
theorem allO {m : Mem} (p : Option Addr) (c : Nat) (l : List Slot) (hl : l.length ≤ 1000000) (hD : Dis l) (sl0 : Sl m cells 15 p c l) :
    Ct Tryz.prog 173 #[.slice p l.length c] m [] (fun v m' B => m = m' ∧ ∃ p2 c2, v = .slice p2 (alls l).length c2 ∧ B = [oS p2 c2 (alls l)]) := by
  have k1 := clone p c l hl sl0
  have k2 := fun (m : Mem) p c => deleteF (m := m) p c l hl
  have hle : (l.filter keep).length ≤ l.length := List.length_filter_le _ _
  have k3 := fun (m : Mem) p c => So.sortF (m := m) p c (l.filter keep).length (l.filter keep) rfl (by omega)
  have hu := fun L (h : L.Perm (l.filter keep) ∧ So.Srt Slot.w 0 (l.filter keep).length L) => alls_uniq hD h.1 (by rw [h.1.length_eq]; exact h.2)
  have hn := (alls_perm l).length_eq
  rw [hn]
  generalize alls l = A at *
  generalize l.filter keep = l2 at *
  refine Ct.enterV (by rfl) Tryz.func173 rfl Tryz.ntmps173 rfl (fun w0 Rest => ?_)
  (repeat' (first | refine zss ?_ | refine zsO ?_ | ((with_reducible first | apply At.c1 | apply At.c0); exact rfl; exact rfl; exact k1; exact ztk; kernel_rfl; rintro v' m' B' hm' ⟨rfl, p2, c2, rfl, rfl⟩; (try replace sl0 := sl0.mono hm'); (try (have hq0 : hm' = Mem.le_refl _ := rfl; clear hq0 hm'))) | ((with_reducible first | apply At.c1 | apply At.c0); exact rfl; exact rfl; exact k2 _ p2 c2; exact ztk; kernel_rfl; rintro v' m' B' hm' ⟨rfl, p3, c3, rfl, rfl⟩; (try replace sl0 := sl0.mono hm'); (try (have hq0 : hm' = Mem.le_refl _ := rfl; clear hq0 hm'))) | ((with_reducible first | apply At.c1 | apply At.c0); exact rfl; exact rfl; exact k3 _ p3 c3; exact ztk; kernel_rfl; rintro v' m' B' hm' ⟨rfl, rfl, L, hL, rfl⟩; (try replace sl0 := sl0.mono hm'); (try (have hq0 : hm' = Mem.le_refl _ := rfl; clear hq0 hm'))) | (refine zsp ?_ ?_ <;> (intro hc; (try simp only [zhcs, reduceCtorEq] at hc); (try (exfalso; first | contradiction | omega | exact absurd rfl hc | exact absurd (by decide) hc))))))
  all_goals (have e := hu L hL; subst e)
  all_goals ((with_reducible apply At.retB1 (B := [oS _ _ _])); exact rfl; exact rfl; exact zml; exact zkp; exact ⟨rfl, _, _, rfl, rfl⟩)
theorem allS {m : Mem} (p : Option Addr) (c : Nat) (l : List Slot) (hl : l.length ≤ 1000000) (hD : Dis l) (sl0 : Sl m cells 15 p c l) :
    Ct Tryz.prog 173 #[.slice p l.length c] m [] (fun v m' B => B = [] ∧ ∃ p2 c2, v = .slice p2 (alls l).length c2 ∧ Sl m' cells 15 p2 c2 (alls l)) :=
  Ct.slice (R := fun v p c => v = .slice p (alls l).length c) inferInstance (Ct.mono (allO p c l hl hD sl0) fun v m' B _ ⟨_, p, c, h2, h3⟩ => ⟨p, c, h2, h3⟩)
end Ti
end Go.Proofs.YtkoijdmlehkhbaaGreatDoor
