/- The contracts of the package codec and of its reference: what is written, what is read. -/
import Derived.Test.YtjncahmbllmllaaRows
import Derived.Test.YtjncahmbllmllaaJM
import Derived.Test.YtjncahmbllmllaaJT
set_option linter.unusedSimpArgs false
set_option linter.unusedVariables false
set_option linter.unusedSectionVars false
set_option maxRecDepth 20000
set_option maxHeartbeats 4000000
namespace Go.Proofs.Ytjncahmbllmllaa
open Go Go.J
attribute [local irreducible] At AtQ AtM AtM1 PR Ct Pu Rd Res.blk Res.own Res.ex RVs RV

namespace Cod
abbrev ptr (b : Nat) : Value := .pointer (some ⟨b, 0, none⟩)
def uintB (n : Nat) : List UInt8 := if n < 128 then [UInt8.ofNat n] else UInt8.ofNat (n % 128 + 128) :: uintB (n / 128)
termination_by n
decreasing_by omega
theorem uintB_lt {n : Nat} (h : n < 128) : uintB n = [UInt8.ofNat n] := by rw [uintB, if_pos h]
theorem uintB_ge {n : Nat} (h : ¬ n < 128) : uintB n = UInt8.ofNat (n % 128 + 128) :: uintB (n / 128) := by rw [uintB, if_neg h]
theorem uintB_pos (n : Nat) : 1 ≤ (uintB n).length := by
  by_cases h : n < 128
  · rw [uintB_lt h]; simp
  · rw [uintB_ge h]; simp
theorem uintB_len : ∀ (k n : Nat), n < 128 ^ k → (uintB n).length ≤ max k 1
  | 0, n, h => by rw [uintB_lt (by simp at h; omega)]; exact Nat.le_refl 1
  | k + 1, n, h => by
    by_cases h1 : n < 128
    · rw [uintB_lt h1]; show 1 ≤ max (k + 1) 1; omega
    · rw [uintB_ge h1, List.length_cons]
      have := uintB_len k (n / 128) (by rw [Nat.pow_succ] at h; omega)
      by_cases hk : k = 0
      · subst hk; simp at h; omega
      · omega
theorem uintB_len10 {n : Nat} (h : n < 18446744073709551616) : (uintB n).length ≤ 10 := by
  have := uintB_len 10 n (by omega)
  omega
theorem bI_of {n : Nat} (h : n < 256) : bI (UInt8.ofNat n) = (n : Int) := by
  unfold bI
  rw [UInt8.toNat_ofNat_of_lt' (by show n < 256; omega)]
theorem or128 (n : Nat) : bits .or .u8 ((n : Int) % 256) 128 = bI (UInt8.ofNat (n % 128 + 128)) := by
  rw [bI_of (by omega), u8_or _ _ (by omega) (by omega) (by omega) (by omega)]
  have e : ((n : Int) % 256).toNat = n % 256 := by omega
  rw [e, show ((128 : Int)).toNat = 128 from rfl]
  have : n % 256 ||| 128 = n % 128 + 128 := by
    have h2 : n % 256 % 128 ||| 128 = n % 256 % 128 + 128 := by rw [Nat.or_comm, nat_join 7 128 (n % 256 % 128) (by decide) (by omega)]; omega
    rcases Nat.lt_or_ge (n % 256) 128 with h | h
    · rw [Nat.mod_eq_of_lt h] at h2; rw [h2]; omega
    · have h3 : n % 256 = 128 + n % 256 % 128 := by omega
      have h4 : 128 ||| (n % 256 % 128) = 128 + n % 256 % 128 := nat_join 7 128 _ (by decide) (by omega)
      rw [h3, ← h4, Nat.or_assoc, Nat.or_comm _ 128, ← Nat.or_assoc, Nat.or_self, h4]; omega
  rw [this]

/-- a writer's block, and its bytes -/
abbrev wr (b : Nat) (p : Option Addr) (c : Nat) (L : List Int) : List Res := [.blk b 67 [.slice p L.length c], .own fb 1 5 p c L]
def W (b : Nat) (l : List UInt8) : Res := .ex (σ := Option Addr × Nat) (fun _ => True) (fun s => wr b s.1 s.2 (l.map bI))
theorem W.open {m : Mem} {f : FuncId} {args : Array Value} {b : Nat} {l : List UInt8} {Q : Value → Mem → List Res → Prop} (h : ∀ p c, Ct Try.prog f args m (wr b p c (l.map bI)) Q) : Ct Try.prog f args m [W b l] Q := Ct.openx fun s _ => by rw [List.append_nil]; exact h s.1 s.2
theorem W.close {b : Nat} {l : List UInt8} (p : Option Addr) (c : Nat) (L : List Int) (e : L = l.map bI) (Rest : List Res) : Ent (wr b p c L ++ Rest) (W b l :: Rest) := by
  subst e
  exact Ent.closex (A := fun s : Option Addr × Nat => wr b s.1 s.2 (l.map bI)) (p, c) trivial
theorem W.conv {m : Mem} {f : FuncId} {args : Array Value} {A : List Res} {b : Nat} {l' : List UInt8} {V : Value} (h : Ct Try.prog f args m A (fun v m' B => v = V ∧ m = m' ∧ ∃ p' c', B = wr b p' c' (l'.map bI))) :
    Ct Try.prog f args m A (fun v m' B => v = V ∧ m = m' ∧ B = [W b l']) :=
  Ct.conv h fun v m' B _ ⟨h1, h2, p', c', h3⟩ => ⟨[W b l'], ⟨h1, h2, rfl⟩, fun Rest => by subst h3; exact W.close p' c' _ rfl Rest⟩
theorem own0 (b : Nat) (Rest : List Res) : Ent (.blk b 67 [.slice none 0 0] :: Rest) (W b [] :: Rest) :=
  (Ent.cons _ (own_nil_ent fb 1 5 Rest)).trans (W.close (b := b) (l := []) none 0 [] rfl Rest)

structure US where
  n : Nat
  L : List Int
  p : Option Addr
  c : Nat
theorem uint0 {m : Mem} (b n : Nat) (p : Option Addr) (c : Nat) (l : List UInt8) (hn : n < 18446744073709551616) (hl : l.length ≤ 30000000000) :
    Ct Try.prog 34 #[ptr b, .int .u64 (n : Int)] m (wr b p c (l.map bI)) (fun v m' B => v = .tuple #[] ∧ m = m' ∧ ∃ p' c', B = wr b p' c' ((l ++ uintB n).map bI)) := by
  have h10 := uintB_len10 hn
  refine Ct.enterV (by rfl) Try.func34 rfl Try.ntmps34 rfl (fun w0 Rest => ?_)
  (repeat' (first | refine zss ?_ | refine zsO ?_ | (refine zsp ?_ ?_ <;> (intro hc; (try simp only [zhcs, reduceCtorEq] at hc); (try (exfalso; first | contradiction | omega | exact absurd rfl hc | exact absurd (by decide) hc))))))
  (refine At.loopk (σ := US) [0] (fun s F0 => (1, .int .u64 (s.n : Int)) :: F0) (fun s => m) (fun s => .blk b 67 [.slice s.p s.L.length s.c] :: .own fb 1 5 s.p s.c s.L :: Rest) (fun s => s.n < 18446744073709551616 ∧ s.L ++ (uintB s.n).map bI = (l ++ uintB n).map bI) (fun s => s.n) ⟨n, l.map bI, p, c⟩ (by rfl) ?_ zsubs zml zente ?_)
  · exact ⟨hn, by simp⟩
  intro s ⟨hs, he⟩
  have hlen : s.L.length + (uintB s.n).length = l.length + (uintB n).length := by
    have := congrArg List.length he
    simpa using this
  have hp := uintB_pos s.n
  by_cases hlt : s.n < 128
  · (repeat' (first | refine zss ?_ | ((first | (with_reducible first | apply At.val | apply AtQ.val)); (exact pr_conv ⟨_, by rfl⟩ (by rfl) (by rfl) (IntWalk.u8_in _ (by omega))); exact rfl) | refine zsO ?_ | ((with_reducible apply At.lit fb [_]); exact inferInstance; (iterate 7 exact rfl); intro _) | ((with_reducible apply At.apW (f := fb)); exact rfl; exact rfl; exact (by repeat constructor); exact inferInstance; exact zrdl; (iterate 4 exact rfl); exact zom; exact rfl; intro _ _) | (refine zsp ?_ ?_ <;> (intro hc; (try simp only [zhcs, reduceCtorEq] at hc); (try (exfalso; first | omega | contradiction | omega | exact absurd rfl hc | exact absurd (by decide) hc))))))
    rw [uintB_lt hlt, List.map_cons, List.map_nil, bI_of (by omega)] at he
    all_goals ((first | (with_reducible apply At.retB0 (B := [.blk b _ _, .own fb 1 5 _ _ (s.L ++ [_])])) | (with_reducible apply At.retR0 (B := [.blk b _ _, .own fb 1 5 _ _ (s.L ++ [_])]))); exact rfl; exact zml; exact zkp; exact ⟨rfl, rfl, _, _, by rw [← he]⟩)
  · (repeat' (first | refine zss ?_ | ((first | (with_reducible first | apply At.val | apply AtQ.val)); (exact pr_or (by rfl) (by rfl) (or128 _)); exact rfl) | refine zsO ?_ | ((with_reducible apply At.lit fb [_]); exact inferInstance; (iterate 7 exact rfl); intro _) | ((with_reducible apply At.apW (f := fb)); exact rfl; exact rfl; exact (by repeat constructor); exact inferInstance; exact zrdl; (iterate 4 exact rfl); exact zom; exact rfl; intro p2 c2) | (refine zsp ?_ ?_ <;> (intro hc; (try simp only [zhcs, reduceCtorEq] at hc); (try (exfalso; first | omega | contradiction | omega | exact absurd rfl hc | exact absurd (by decide) hc))))))
    all_goals ((with_reducible refine At.reachk (⟨s.n / 128, s.L ++ [bI (UInt8.ofNat (s.n % 128 + 128))], p2, c2⟩) ?_ ?_ ?_ ?_); exact zsubs; exact zml; exact zente; exact ⟨⟨by show s.n / 128 < _; omega, by rw [uintB_ge hlt] at he; show _ ++ _ ++ (uintB (s.n / 128)).map bI = _; rw [← he]; simp⟩, by show s.n / 128 < s.n; omega⟩)
theorem uint {m : Mem} (b n : Nat) (l : List UInt8) (hn : n < 18446744073709551616) (hl : l.length ≤ 30000000000) :
    Ct Try.prog 34 #[ptr b, .int .u64 (n : Int)] m [W b l] (fun v m' B => v = .tuple #[] ∧ m = m' ∧ B = [W b (l ++ uintB n)]) :=
  W.open fun p c => W.conv (uint0 b n p c l hn hl)

theorem xor_ones {k y : Nat} (h : y < 2 ^ k) : y ^^^ (2 ^ k - 1) = 2 ^ k - 1 - y := by
  apply Nat.eq_of_testBit_eq
  intro i
  rw [Nat.testBit_xor, Nat.testBit_two_pow_sub_one, show 2 ^ k - 1 - y = 2 ^ k - (y + 1) by omega, Nat.testBit_two_pow_sub_succ h]
  by_cases hi : i < k
  · simp [hi]
  · simp [hi, Nat.testBit_lt_two_pow (Nat.lt_of_lt_of_le h (Nat.pow_le_pow_right (by decide) (by omega : k ≤ i)))]
def zig (n : Int) : Nat := if n < 0 then (2 * (-(n + 1)) + 1).toNat else (2 * n).toNat
theorem zig_lt {n : Int} (hn : -9223372036854775808 ≤ n ∧ n ≤ 9223372036854775807) : zig n < 18446744073709551616 := by unfold zig; split <;> omega
theorem zigx0 {n : Int} (h0 : ¬ n < 0) (h : n ≤ 9223372036854775807) : bits .xor .u64 (n * 2) (n / 9223372036854775808) = (zig n : Int) := by
  have e : n / 9223372036854775808 = 0 := by omega
  rw [e, u64_xor _ _ (by omega) (by omega) (by omega) (by omega)]
  unfold zig
  rw [if_neg h0, show ((0 : Int)).toNat = 0 from rfl, Nat.xor_zero, Int.mul_comm]
theorem zigx1 {n : Int} (h0 : n < 0) (h : -9223372036854775808 ≤ n) : bits .xor .u64 ((n % 18446744073709551616 * 2) % 18446744073709551616) (n / 9223372036854775808 % 18446744073709551616) = (zig n : Int) := by
  have e : n / 9223372036854775808 % 18446744073709551616 = 18446744073709551615 := by omega
  have e2 : (n % 18446744073709551616 * 2) % 18446744073709551616 = 18446744073709551616 + 2 * n := by omega
  rw [e, e2, u64_xor _ _ (by omega) (by omega) (by omega) (by omega)]
  unfold zig
  rw [if_pos h0, show ((18446744073709551615 : Int)).toNat = 2 ^ 64 - 1 from rfl, xor_ones (by omega)]
  omega
theorem raw0 {m : Mem} (b : Nat) (p : Option Addr) (c : Nat) (l t : List UInt8) (hl : l.length + t.length ≤ 30000000000) :
    Ct Try.prog 52 #[ptr b, .string (str t)] m (wr b p c (l.map bI)) (fun v m' B => v = .tuple #[] ∧ m = m' ∧ ∃ p' c', B = wr b p' c' ((l ++ t).map bI)) := by
  refine Ct.enterV (by rfl) Try.func52 rfl Try.ntmps52 rfl (fun w0 Rest => ?_)
  (repeat' (first | refine zss ?_ | refine zsO ?_ | ((with_reducible apply At.append_str); exact rfl; exact rfl; exact (by repeat constructor); (iterate 3 exact rfl); exact zlq; exact zom; exact rfl; intro _ _) | (refine zsp ?_ ?_ <;> (intro hc; (try simp only [zhcs, reduceCtorEq] at hc); (try (exfalso; first | contradiction | omega | exact absurd rfl hc | exact absurd (by decide) hc))))))
  all_goals ((first | (with_reducible apply At.retB0 (B := [.blk b _ _, .own fb 1 5 _ _ _])) | (with_reducible apply At.retR0 (B := [.blk b _ _, .own fb 1 5 _ _ _]))); exact rfl; exact zml; exact zkp; exact ⟨rfl, rfl, _, _, by rw [List.map_append]⟩)
theorem raw {m : Mem} (b : Nat) (l t : List UInt8) (hl : l.length + t.length ≤ 30000000000) :
    Ct Try.prog 52 #[ptr b, .string (str t)] m [W b l] (fun v m' B => v = .tuple #[] ∧ m = m' ∧ B = [W b (l ++ t)]) :=
  W.open fun p c => W.conv (raw0 b p c l t hl)
def textB (t : List UInt8) : List UInt8 := uintB t.length ++ t
theorem text {m : Mem} (b : Nat) (l t : List UInt8) (hl : l.length ≤ 10000000000) (ht : t.length ≤ 10000000000) :
    Ct Try.prog 35 #[ptr b, .string (str t)] m [W b l] (fun v m' B => v = .tuple #[] ∧ m = m' ∧ B = [W b (l ++ textB t)]) := by
  have h10 := uintB_len10 (n := t.length) (by omega)
  refine Ct.enterV (by rfl) Try.func35 rfl Try.ntmps35 rfl (fun w0 Rest => ?_)
  (repeat' (first | refine zss ?_ | refine zs0 ?_ | ((with_reducible first | apply At.c1 | apply At.c0); exact rfl; exact rfl; exact uint b t.length l (by omega) (by omega); exact ztk; kernel_rfl; rintro v' m' B' hm' ⟨rfl, rfl, rfl⟩; skip; (try (have hq0 : hm' = Mem.le_refl _ := rfl; clear hq0 hm'))) | ((with_reducible first | apply At.c1 | apply At.c0); exact rfl; exact rfl; exact raw b (l ++ uintB t.length) t (by simp; omega); exact ztk; kernel_rfl; rintro v' m' B' hm' ⟨rfl, rfl, rfl⟩; skip; (try (have hq0 : hm' = Mem.le_refl _ := rfl; clear hq0 hm'))) | (refine zsp ?_ ?_ <;> (intro hc; (try simp only [zhcs, reduceCtorEq] at hc); (try (exfalso; first | contradiction | omega | exact absurd rfl hc | exact absurd (by decide) hc))))))
  all_goals ((first | (with_reducible apply At.retB0 (B := [W b _])) | (with_reducible apply At.retR0 (B := [W b _]))); exact rfl; exact zml; exact zkp; exact ⟨rfl, rfl, by unfold textB; rw [List.append_assoc]⟩)
theorem out {m : Mem} (b : Nat) (l : List UInt8) : Rd Try.prog 36 #[ptr b] m [W b l] (.string (str l)) :=
  Rd.openx fun s _ => by
    rw [List.append_nil]
    unfold Rd
    refine Ct.enterV (by rfl) Try.func36 rfl Try.ntmps36 rfl (fun w0 Rest => ?_)
    (repeat' (first | refine zss ?_ | refine zsO ?_ | (refine zsp ?_ ?_ <;> (intro hc; (try simp only [zhcs, reduceCtorEq] at hc); (try (exfalso; first | contradiction | omega | exact absurd rfl hc | exact absurd (by decide) hc))))))
    all_goals ((with_reducible apply At.retB1 (B := wr b s.1 s.2 (l.map bI))); exact rfl; exact rfl; exact zml; exact zkp; exact ⟨by rw [u8_map], rfl, rfl⟩)

def fixB (w : Int) (n : Nat) : List UInt8 := if 1 ≤ w ∧ w ≤ 8 then (List.range w.toNat).map (fun i => UInt8.ofNat (n / 256 ^ (w.toNat - 1 - i))) else []
theorem bI_mod (n : Nat) : bI (UInt8.ofNat n) = ((n % 256 : Nat) : Int) := by unfold bI; rfl
theorem fix_step (n k w : Nat) (h : k < w) : ((n : Int) / 2 ^ (8 * ((w : Int) - 1 - k)).toNat) % 256 = bI (UInt8.ofNat (n / 256 ^ (w - 1 - k))) := by
  rw [bI_mod, show (8 * ((w : Int) - 1 - k)).toNat = 8 * (w - 1 - k) by omega, show (256 : Nat) ^ (w - 1 - k) = 2 ^ (8 * (w - 1 - k)) by rw [Nat.pow_mul], Int.natCast_emod, Int.natCast_ediv, Int.natCast_pow]
  rfl
structure FS where
  k : Nat
  L : List Int
  p : Option Addr
  c : Nat
theorem fixed0 {m : Mem} (b n w : Nat) (p : Option Addr) (c : Nat) (l : List UInt8) (hn : n < 18446744073709551616) (hl : l.length ≤ 30000000000) (h1 : 1 ≤ w) (h8 : w ≤ 8) :
    Ct Try.prog 37 #[ptr b, .int .i64 (w : Int), .int .u64 (n : Int)] m (wr b p c (l.map bI)) (fun v m' B => v = .tuple #[] ∧ m = m' ∧ ∃ p' c', B = wr b p' c' ((l ++ fixB w n).map bI)) := by
  refine Ct.enterV (by rfl) Try.func37 rfl Try.ntmps37 rfl (fun w0 Rest => ?_)
  (repeat' (first | refine zss ?_ | refine zsO ?_ | (refine zsp ?_ ?_ <;> (intro hc; (try simp only [zhcs, reduceCtorEq] at hc); (try (exfalso; first | contradiction | omega | exact absurd rfl hc | exact absurd (by decide) hc))))))
  (refine At.loopk (σ := FS) [0, 2] (fun s F0 => (6, .int .i64 (8 * ((w : Int) - 1 - s.k))) :: F0) (fun s => m) (fun s => .blk b 67 [.slice s.p s.L.length s.c] :: .own fb 1 5 s.p s.c s.L :: Rest) (fun s => s.k ≤ w ∧ s.L = (l ++ (List.range s.k).map (fun i => UInt8.ofNat (n / 256 ^ (w - 1 - i)))).map bI) (fun s => w - s.k) ⟨0, l.map bI, p, c⟩ (by rfl) ?_ zsubs zml zente ?_)
  · exact ⟨Nat.zero_le _, by simp⟩
  intro s ⟨hs, he⟩
  have hlen : s.L.length = l.length + s.k := by rw [he]; simp
  by_cases hlt : s.k < w
  · (repeat' (first | ((with_reducible apply At.mixed (id := 4) 14 (.q 0 (.q 1 (.q 2 (.q 3 (.q 4 (.q 5 (.q 6 (.q 7 (.q 8 (.l 9 (.x 10 (.q 11 (.q 12 (.x 13 .done))))))))))))))); exact rfl; kernel_rfl; kernel_rfl; kernel_rfl) | refine zsx ?_ | refine zss ?_ | ((with_reducible apply AtM.bo); exact rfl; exact rfl; exact rfl) | ((first | (with_reducible first | apply At.val | apply AtQ.val) | ((with_reducible first | apply AtM1.valz | apply AtM1.val); exact rfl) | ((with_reducible apply AtM1.val); exact rfl)); (exact pr_conv ⟨_, by rfl⟩ (by rfl) (by rfl) ((IntKind.wrap_u8 _).trans (fix_step n s.k w hlt))); exact rfl) | refine zsO ?_ | refine zxO ?_ | ((with_reducible apply At.lit fb [_]); exact inferInstance; (iterate 7 exact rfl); intro _) | ((with_reducible apply At.apW (f := fb)); exact rfl; exact rfl; exact (by repeat constructor); exact inferInstance; exact zrdl; (iterate 4 exact rfl); exact zom; exact rfl; intro p2 c2) | (refine zsp ?_ ?_ <;> (intro hc; (try simp only [zhcs, reduceCtorEq] at hc); (try (exfalso; first | omega | contradiction | omega | exact absurd rfl hc | exact absurd (by decide) hc))))))
    all_goals ((with_reducible refine At.reachk (⟨s.k + 1, s.L ++ [bI (UInt8.ofNat (n / 256 ^ (w - 1 - s.k)))], p2, c2⟩) ?_ ?_ ?_ ?_); exact zsubs; exact zml; exact zente; exact ⟨⟨hlt, by show _ ++ _ = _; rw [he, List.range_succ]; simp⟩, by show w - (s.k + 1) < w - s.k; omega⟩)
  · (repeat' (first | refine zss ?_ | refine zsO ?_ | (refine zsp ?_ ?_ <;> (intro hc; (try simp only [zhcs, reduceCtorEq] at hc); (try (exfalso; first | omega | contradiction | omega | exact absurd rfl hc | exact absurd (by decide) hc))))))
    all_goals ((first | (with_reducible apply At.retB0 (B := [.blk b _ _, .own fb 1 5 _ _ s.L])) | (with_reducible apply At.retR0 (B := [.blk b _ _, .own fb 1 5 _ _ s.L]))); exact rfl; exact zml; exact zkp; exact ⟨rfl, rfl, _, _, by rw [he]; unfold fixB; rw [if_pos (by omega), show s.k = w by omega]; rfl⟩)
theorem fixed {m : Mem} (b n : Nat) (w : Int) (l : List UInt8) (hn : n < 18446744073709551616) (hl : l.length ≤ 30000000000) :
    Ct Try.prog 37 #[ptr b, .int .i64 w, .int .u64 (n : Int)] m [W b l] (fun v m' B => v = .tuple #[] ∧ m = m' ∧ B = [W b (l ++ fixB w n)]) := by
  by_cases hw : 1 ≤ w ∧ w ≤ 8
  · obtain ⟨k, rfl⟩ : ∃ k : Nat, w = k := ⟨w.toNat, by omega⟩
    exact W.open fun p c => W.conv (fixed0 b n k p c l hn hl (by omega) (by omega))
  · have e : fixB w n = [] := if_neg hw
    rw [e, List.append_nil]
    refine Ct.enterV (by rfl) Try.func37 rfl Try.ntmps37 rfl (fun w0 Rest => ?_)
    (repeat' (first | refine zss ?_ | refine zsO ?_ | (refine zsp ?_ ?_ <;> (intro hc; (try simp only [zhcs, reduceCtorEq] at hc); (try (exfalso; first | omega | contradiction | omega | exact absurd rfl hc | exact absurd (by decide) hc))))))
    all_goals ((first | (with_reducible apply At.retB0 (B := [W b l])) | (with_reducible apply At.retR0 (B := [W b l]))); exact rfl; exact zml; exact zkp; exact ⟨rfl, rfl, rfl⟩)

/-! ### the document's bytes -/
theorem zig_neg {n : Int} (h : n < 0) : (zig n : Int) = 2 * (0 - (n + 1)) + 1 := by unfold zig; rw [if_pos h]; omega
theorem zig_pos {n : Int} (h : ¬ n < 0) : (zig n : Int) = 2 * n := by unfold zig; rw [if_neg h]; omega
theorem fix_get (n w j : Nat) (h : j < w) (h1 : 1 ≤ w) (h8 : w ≤ 8) : ((fixB w n).map bI)[j]! = ((n / 256 ^ (w - 1 - j) % 256 : Nat) : Int) := by
  unfold fixB
  rw [if_pos (by omega), getElem!_pos _ j (by simp; omega)]
  simp [bI_mod]
theorem fix_len (n w : Nat) (h1 : 1 ≤ w) (h8 : w ≤ 8) : (fixB w n).length = w := by
  unfold fixB
  rw [if_pos (by omega)]; simp
structure GS where
  i : Nat
  d : Nat
  L : List Int
theorem fix_inv {n k d i : Nat} {L : List Int} (h0 : d = n / 256 ^ i) (h1 : i ≤ k) (h2 : L.length = k) (h3 : ∀ j, j < k → L[j]! = if k - i ≤ j then ((n / 256 ^ (k - 1 - j) % 256 : Nat) : Int) else 0) (h : i < k) :
    d / 256 = n / 256 ^ (i + 1) ∧ i + 1 ≤ k ∧ (L.set (k - 1 - i) ((d : Int) % 256)).length = k ∧ ∀ j, j < k → (L.set (k - 1 - i) ((d : Int) % 256))[j]! = if k - (i + 1) ≤ j then ((n / 256 ^ (k - 1 - j) % 256 : Nat) : Int) else 0 := by
  refine ⟨by rw [h0, Nat.div_div_eq_div_mul, Nat.pow_succ], h, by simpa using h2, fun j hj => ?_⟩
  by_cases e : j = k - 1 - i
  · subst e
    rw [getElem!_pos _ _ (by simp; omega), List.getElem_set_self, if_pos (by omega), show k - 1 - (k - 1 - i) = i by omega, ← h0]
    rfl
  · rw [getElem!_pos _ j (by simp; omega), List.getElem_set_ne (Ne.symm e), ← getElem!_pos L j (by omega), h3 j hj]
    by_cases e2 : k - i ≤ j
    · rw [if_pos e2, if_pos (by omega)]
    · rw [if_neg e2, if_neg (by omega)]
end Cod
end Go.Proofs.Ytjncahmbllmllaa
