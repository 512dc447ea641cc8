/- Labels as bytes: Bytes, Of; Same. -/
import Derived.Test.YtjncahmbllmllaaLbQ
import Derived.Test.YtjncahmbllmllaaCodecR
import Derived.Test.YtjncahmbllmllaaJC
import Derived.Test.YtjncahmbllmllaaJE
import Derived.Test.YtjncahmbllmllaaJT
set_option linter.unusedSimpArgs false
set_option linter.unusedVariables false
set_option linter.unusedSectionVars false
set_option maxRecDepth 20000
set_option maxHeartbeats 4000000
namespace Go.Proofs.Ytjncahmbllmllaa
open Go Go.J
attribute [local irreducible] At AtQ AtM AtM1 PR Ct Pu Rd Res.blk Res.own Res.ex RVs RV Cod.W
namespace Lb
theorem equal {m : Mem} (p : Option Addr) (c : Nat) (a : List Lab) (q : Option Addr) (d : Nat) (b : List Lab) (hl : a.length ≤ 1000000000) (hlb : b.length ≤ 1000000000) (sl0 : Sl m cells 2 p c a) (sl1 : Sl m cells 2 q d b) :
    Rd Try.prog 23 #[.slice p a.length c, .slice q b.length d] m [] (.bool (decide (a = b))) := by
  unfold Rd
  by_cases hlen : a.length = b.length
  · refine Ct.enterV (by rfl) Try.func23 rfl Try.ntmps23 rfl (fun w0 Rest => ?_)
    (repeat' (first | refine zss ?_ | refine zsM ?_ | (refine zsp ?_ ?_ <;> (intro hc; (try simp only [zhcs, reduceCtorEq] at hc); (try (exfalso; first | omega | contradiction | omega | exact absurd rfl hc | exact absurd (by decide) hc))))))
    (refine At.loopk (σ := Nat) [0, 1, 12] (fun s F0 => (13, .int .i64 (s : Int)) :: F0) (fun s => m) (fun s => Rest) (fun s => s ≤ a.length ∧ ∀ i, i < s → a[i]! = b[i]!) (fun s => a.length - s) 0 (by rfl) ?_ zsubs zml zente ?_)
    · exact ⟨Nat.zero_le _, fun i h => absurd h (Nat.not_lt_zero i)⟩
    rintro s ⟨hs, hn⟩
    by_cases h : s < a.length
    · by_cases e : a[s]! = b[s]!
      · have hnn : ∀ i, i < s + 1 → a[i]! = b[i]! := fun i hi => by
          by_cases e1 : i = s
          · subst e1; exact e
          · exact hn i (by omega)
        (repeat' (first | refine zss ?_ | ((first | (with_reducible first | apply At.val | apply AtQ.val)); (exact pr_lbne (by rfl) (by rfl)); exact rfl) | refine zsM ?_ | (refine zsp ?_ ?_ <;> (intro hc; (try simp only [zhcs, reduceCtorEq] at hc); (try (exfalso; first | (first | omega | exact absurd e hc) | contradiction | omega | exact absurd rfl hc | exact absurd (by decide) hc))))))
        all_goals ((with_reducible refine At.reachk ((s + 1)) ?_ ?_ ?_ ?_); exact zsubs; exact zml; exact zente; exact ⟨⟨h, hnn⟩, by omega⟩)
      · rw [decide_eq_false (show ¬ a = b from fun h => e (by rw [h]))]
        (repeat' (first | refine zss ?_ | ((first | (with_reducible first | apply At.val | apply AtQ.val)); (exact pr_lbne (by rfl) (by rfl)); exact rfl) | refine zsM ?_ | (refine zsp ?_ ?_ <;> (intro hc; (try simp only [zhcs, reduceCtorEq] at hc); (try (exfalso; first | (first | omega | exact absurd hc e) | contradiction | omega | exact absurd rfl hc | exact absurd (by decide) hc))))))
        all_goals ((with_reducible apply At.retB1 (B := [])); exact rfl; exact rfl; exact zml; exact zkp; exact ⟨rfl, rfl, rfl⟩)
    · rw [decide_eq_true (show a = b from Ls.ext! hlen fun i hi => hn i (by omega))]
      (repeat' (first | refine zss ?_ | refine zsM ?_ | (refine zsp ?_ ?_ <;> (intro hc; (try simp only [zhcs, reduceCtorEq] at hc); (try (exfalso; first | omega | contradiction | omega | exact absurd rfl hc | exact absurd (by decide) hc))))))
      all_goals ((with_reducible apply At.retB1 (B := [])); exact rfl; exact rfl; exact zml; exact zkp; exact ⟨rfl, rfl, rfl⟩)
  · rw [decide_eq_false (show ¬ a = b from fun h => hlen (by rw [h]))]
    refine Ct.enterV (by rfl) Try.func23 rfl Try.ntmps23 rfl (fun w0 Rest => ?_)
    (repeat' (first | refine zss ?_ | refine zsM ?_ | (refine zsp ?_ ?_ <;> (intro hc; (try simp only [zhcs, reduceCtorEq] at hc); (try (exfalso; first | omega | contradiction | omega | exact absurd rfl hc | exact absurd (by decide) hc))))))
    all_goals ((with_reducible apply At.retB1 (B := [])); exact rfl; exact rfl; exact zml; exact zkp; exact ⟨rfl, rfl, rfl⟩)
theorem same {m : Mem} (p : Option Addr) (c : Nat) (a : List Lab) (q : Option Addr) (d : Nat) (b : List Lab) (hl : a.length ≤ 1000000000) (hlb : b.length ≤ 1000000000) (sl0 : Sl m cells 2 p c a) (sl1 : Sl m cells 2 q d b) :
    Rd Try.prog 11 #[.slice p a.length c, .slice q b.length d] m [] (.bool (decide (a = b))) := by
  unfold Rd
  have h := fun (m' : Mem) (hm' : m.le m') => equal (m := m') p c a q d b hl hlb (sl0.mono hm') (sl1.mono hm')
  refine Ct.enterV (by rfl) Try.func11 rfl Try.ntmps11 rfl (fun w0 Rest => ?_)
  (repeat' (first | refine zss ?_ | refine zs0 ?_ | ((with_reducible first | apply AtM1.cr | apply AtQ.cr | apply At.cr); exact rfl; exact rfl; exact fun _ hmm => h _ hmm; exact ztk; kernel_rfl) | (refine zsp ?_ ?_ <;> (intro hc; (try simp only [zhcs, reduceCtorEq] at hc); (try (exfalso; first | contradiction | omega | exact absurd rfl hc | exact absurd (by decide) hc))))))
  all_goals ((with_reducible apply At.retB1 (B := [])); exact rfl; exact rfl; exact zml; exact zkp; exact ⟨rfl, rfl, rfl⟩)
open Cod
def oneL (x : Lab) : List UInt8 := textB x.n ++ textB x.v
def bodyL (l : List Lab) : List UInt8 := l.flatMap oneL
def bytesL (l : List Lab) : List UInt8 := uintB l.length ++ bodyL l
theorem body_snoc {l : List Lab} {i : Nat} (h : i < l.length) : bodyL (l.take (i + 1)) = bodyL (l.take i) ++ (textB l[i]!.n ++ textB l[i]!.v) := by
  unfold bodyL
  rw [Ls.take_snoc h, List.flatMap_append]
  simp [oneL]
theorem one_len {x : Lab} (h : x.n.length ≤ 64 ∧ x.v.length ≤ 128) : (oneL x).length ≤ 300 := by
  have h1 := uintB_len10 (n := x.n.length) (by omega)
  have h2 := uintB_len10 (n := x.v.length) (by omega)
  unfold oneL textB
  simp only [List.length_append]
  omega
theorem right_at {l : List Lab} (h : right l) {i : Nat} (hi : i < l.length) : l[i]!.n.length ≤ 64 ∧ l[i]!.v.length ≤ 128 := by
  have h1 := of_decide_eq_true (h.2.2.1 i hi)
  have h2 := of_decide_eq_true h1.1
  exact ⟨h2.2.1, h1.2.1⟩
theorem body_len {l : List Lab} (h : ∀ i, i < l.length → l[i]!.n.length ≤ 64 ∧ l[i]!.v.length ≤ 128) : ∀ i, i ≤ l.length → (bodyL (l.take i)).length ≤ 300 * i
  | 0, _ => by simp [bodyL]
  | i + 1, hi => by
    have := body_len h i (by omega)
    have h2 := one_len (h i (by omega))
    rw [body_snoc (by omega), List.length_append]
    unfold oneL at h2
    omega
theorem bytes {m : Mem} (p : Option Addr) (c : Nat) (l : List Lab) (hb : Mid l) (sl0 : Sl m cells 2 p c l) :
    Rd Try.prog 16 #[.slice p l.length c] m [] (.tuple #[.string (str (if right l then bytesL l else [])), .int .i64 (chk l)]) := by
  unfold Rd
  have hk := fun (m' : Mem) (hm' : m.le m') => check (m := m') p c l hb (sl0.mono hm')
  by_cases hr : right l
  · rw [if_pos hr, chk_ok hr]
    rw [chk_ok hr] at hk
    have hln : l.length ≤ 16 := hr.2.1
    have hbl := body_len (l := l) fun i hi => right_at hr hi
    have hu := uintB_len10 (n := l.length) (by omega)
    have k1 : ∀ (m : Mem) (b : Nat), Ct Try.prog 34 #[ptr b, .int .u64 (l.length : Int)] m [W b []] (fun v m' B => v = .tuple #[] ∧ m = m' ∧ B = [W b (uintB l.length ++ bodyL (l.take 0))]) := fun m b => by
      have := uint (m := m) b l.length [] (by omega) (by show 0 ≤ _; omega)
      rwa [show [] ++ uintB l.length = uintB l.length ++ bodyL (l.take 0) by simp [bodyL]] at this
    refine Ct.enterV (by rfl) Try.func16 rfl Try.ntmps16 rfl (fun w0 Rest => ?_)
    (repeat' (first | refine zss ?_ | refine zsM ?_ | (refine At.ent (own0 b5 _) ?_) | ((with_reducible first | apply AtM1.cr | apply AtQ.cr | apply At.cr); exact rfl; exact rfl; exact fun _ hmm => hk _ hmm; exact ztk; kernel_rfl) | ((with_reducible first | apply At.c1 | apply At.c0); exact rfl; exact rfl; exact k1 _ b5; exact ztk; kernel_rfl; rintro v' m' B' hm' ⟨rfl, rfl, rfl⟩; (try replace sl0 := sl0.mono hm'); (try (have hq0 : hm' = Mem.le_refl _ := rfl; clear hq0 hm'))) | ((with_reducible apply At.alloc (d := 5)); exact rfl; exact rfl; intro b5) | ((with_reducible apply At.alloc (d := 7)); exact rfl; exact rfl; intro b7) | (refine zsp ?_ ?_ <;> (intro hc; (try simp only [zhcs, reduceCtorEq] at hc); (try (exfalso; first | omega | contradiction | omega | exact absurd rfl hc | exact absurd (by decide) hc))))))
    (refine At.loopk (σ := Nat) [5, 17, 18] (fun s F0 => (19, .int .i64 (s : Int)) :: F0) (fun s => m) (fun s => W b5 (uintB l.length ++ bodyL (l.take s)) :: Rest) (fun s => s ≤ l.length) (fun s => l.length - s) 0 (by rfl) ?_ zsubs zml zente ?_)
    · exact Nat.zero_le _
    rintro s hs
    by_cases h : s < l.length
    · have hbs := hbl s (by omega)
      have hrr := right_at hr h
      have hu1 := uintB_len10 (n := l[s]!.n.length) (by omega)
      have e3 := body_snoc h
      have htl : (textB l[s]!.n).length ≤ 100 := by unfold textB; rw [List.length_append]; omega
      have k2 := fun m => text (m := m) b5 (uintB l.length ++ bodyL (l.take s)) (l[s]!.n) (by rw [List.length_append]; omega) (by omega)
      have k3 := fun m => text (m := m) b5 (uintB l.length ++ bodyL (l.take s) ++ textB l[s]!.n) (l[s]!.v) (by rw [List.length_append, List.length_append]; omega) (by omega)
      (repeat' (first | refine zss ?_ | refine zsM ?_ | ((with_reducible first | apply At.c1 | apply At.c0); exact rfl; exact rfl; exact k2 _; exact ztk; kernel_rfl; rintro v' m' B' hm' ⟨rfl, rfl, rfl⟩; (try replace sl0 := sl0.mono hm'); (try (have hq0 : hm' = Mem.le_refl _ := rfl; clear hq0 hm'))) | ((with_reducible first | apply At.c1 | apply At.c0); exact rfl; exact rfl; exact k3 _; exact ztk; kernel_rfl; rintro v' m' B' hm' ⟨rfl, rfl, rfl⟩; (try replace sl0 := sl0.mono hm'); (try (have hq0 : hm' = Mem.le_refl _ := rfl; clear hq0 hm'))) | ((with_reducible apply At.alloc (d := 5)); exact rfl; exact rfl; intro b5) | ((with_reducible apply At.alloc (d := 7)); exact rfl; exact rfl; intro b7) | (refine zsp ?_ ?_ <;> (intro hc; (try simp only [zhcs, reduceCtorEq] at hc); (try (exfalso; first | omega | contradiction | omega | exact absurd rfl hc | exact absurd (by decide) hc))))))
      all_goals rw [show uintB l.length ++ bodyL (l.take s) ++ textB l[s]!.n ++ textB l[s]!.v = uintB l.length ++ bodyL (l.take (s + 1)) by rw [e3]; simp only [List.append_assoc]]
      all_goals ((with_reducible refine At.reachk ((s + 1)) ?_ ?_ ?_ ?_); exact zsubs; exact zml; exact zente; exact ⟨h, by omega⟩)
    · rw [show l.take s = l from List.take_of_length_le (by omega)]
      (repeat' (first | refine zss ?_ | refine zsM ?_ | ((with_reducible first | apply AtM1.cr | apply AtQ.cr | apply At.cr); exact rfl; exact rfl; exact fun _ hmm => out b5 (uintB l.length ++ bodyL l); exact ztk; kernel_rfl) | ((with_reducible apply At.alloc (d := 5)); exact rfl; exact rfl; intro b5) | ((with_reducible apply At.alloc (d := 7)); exact rfl; exact rfl; intro b7) | (refine zsp ?_ ?_ <;> (intro hc; (try simp only [zhcs, reduceCtorEq] at hc); (try (exfalso; first | omega | contradiction | omega | exact absurd rfl hc | exact absurd (by decide) hc))))))
      all_goals ((with_reducible apply At.retV (B := [])); exact rfl; (repeat' (first | exact RVs.nil | (with_reducible apply RVs.cons) | exact rv_tmp (by rfl) | exact rv_cellN (by rfl) (by repeat constructor) (by rfl) (by rfl) (by rfl) | exact rv_cell1 (by rfl) (by repeat constructor) (by rfl) (by rfl))); exact zml; exact zkp; exact ⟨rfl, rfl, rfl⟩)
  · rw [if_neg hr]
    have hd : chk l ≠ 0 := fun k => hr (chk_right.1 k)
    generalize chk l = w at hk hd ⊢
    refine Ct.enterV (by rfl) Try.func16 rfl Try.ntmps16 rfl (fun w0 Rest => ?_)
    (repeat' (first | refine zss ?_ | refine zsM ?_ | ((with_reducible first | apply AtM1.cr | apply AtQ.cr | apply At.cr); exact rfl; exact rfl; exact fun _ hmm => hk _ hmm; exact ztk; kernel_rfl) | ((with_reducible apply At.alloc (d := 5)); exact rfl; exact rfl; intro b5) | ((with_reducible apply At.alloc (d := 7)); exact rfl; exact rfl; intro b7) | (refine zsp ?_ ?_ <;> (intro hc; (try simp only [zhcs, reduceCtorEq] at hc); (try (exfalso; first | (first | omega | exact absurd hc hd) | contradiction | omega | exact absurd rfl hc | exact absurd (by decide) hc))))))
    all_goals ((with_reducible apply At.retV (B := [])); exact rfl; (repeat' (first | exact RVs.nil | (with_reducible apply RVs.cons) | exact rv_tmp (by rfl) | exact rv_cellN (by rfl) (by repeat constructor) (by rfl) (by rfl) (by rfl) | exact rv_cell1 (by rfl) (by repeat constructor) (by rfl) (by rfl))); exact zml; exact zkp; exact ⟨rfl, rfl, rfl⟩)
/-- one label, as it is read -/
def rdO (s : RS) : Lab := ⟨(rT 64 s).1, (rT 128 (rT 64 s).2).1⟩
def rdS (s : RS) : RS := (rT 128 (rT 64 s).2).2
def rdl : Nat → Nat → List Lab → RS → List Lab × RS
  | 0, _, o, s => (o, s)
  | f + 1, n, o, s => if 0 < n ∧ s.2 = false then rdl f (n - 1) (o ++ [rdO s]) (rdS s) else (o, s)
/-- the labels of bytes, or why there are none -/
def ofR (t : List UInt8) : List Lab × RS := rdl 17 (rU (t, false)).1 [] (rU (t, false)).2
def okOf (t : List UInt8) : Prop := (ofR t).2.2 = false ∧ (ofR t).2.1 = [] ∧ right (ofR t).1
instance (t : List UInt8) : Decidable (okOf t) := by unfold okOf; infer_instance
def ofL (t : List UInt8) : List Lab := if okOf t then (ofR t).1 else []
def ofE (t : List UInt8) : Int := if okOf t then 0 else 4
theorem rT_len (most : Int) (s : RS) (hm : 0 ≤ most) : ((rT most s).1.length : Int) ≤ most := by
  unfold rT
  split
  · exact hm
  · rename_i h
    unfold rR
    split
    · exact hm
    · rename_i h2
      dsimp only
      rw [List.length_take, Int.toNat_natCast]
      omega
theorem rT_le (n : Int) (s : RS) : (rT n s).2.1.length ≤ s.1.length := by
  unfold rT
  split
  · simp
  · unfold rR
    split
    · simp
    · have := rU_le s
      simp only [List.length_drop]
      omega
theorem rdS_le (s : RS) : (rdS s).1.length ≤ s.1.length := Nat.le_trans (rT_le _ _) (rT_le _ _)
structure OS where
  (f n : Nat) (o : List Lab) (s : RS) (p : Option Addr) (c : Nat)
def PostO (l : List Lab) (w : Int) : Value → Mem → List Res → Prop := fun v m' B => B = [] ∧ ∃ p c, v = .tuple #[.slice p l.length c, .int .i64 w] ∧ Sl m' cells 2 p c l
theorem rdO_bd (s : RS) : (rdO s).n.length ≤ 64 ∧ (rdO s).v.length ≤ 128 := by
  have h1 := rT_len 64 s (by decide)
  have h2 := rT_len 128 (rT 64 s).2 (by decide)
  unfold rdO
  exact ⟨by show (rT 64 s).1.length ≤ 64; omega, by show (rT 128 (rT 64 s).2).1.length ≤ 128; omega⟩
set_option maxHeartbeats 1000000 in
theorem of_ {m : Mem} (t : List UInt8) (hl : t.length ≤ 10000000000) :
    Ct Try.prog 15 #[.string (str t)] m [] (PostO (ofL t) (ofE t)) := by
  have hU := rU_lt (t, false)
  have hUl := rU_le (t, false)
  have hR : rdl 17 (rU (t, false)).1 [] (rU (t, false)).2 = ofR t := rfl
  have k0 := fun m => ruintP (m := m)
  refine Ct.enterV (by rfl) Try.func15 rfl Try.ntmps15 rfl (fun w0 Rest => ?_)
  (repeat' (first | refine zss ?_ | refine zs0 ?_ | ((with_reducible first | apply At.c1 | apply At.c0); exact rfl; exact rfl; exact open_ t; exact ztk; kernel_rfl; rintro v' m' B' hm' ⟨rfl, b4, rfl, rfl⟩; (try replace sl2 := sl2.mono hm'); (try replace sl3 := sl3.mono hm'); (try (have hq0 : hm' = Mem.le_refl _ := rfl; clear hq0 hm'))) | ((with_reducible first | apply At.c1 | apply At.c0); exact rfl; exact rfl; exact k0 _ b4 (t, false) (by show t.length ≤ _; omega); exact ztk; kernel_rfl; rintro v' m' B' hm' ⟨rfl, rfl, rfl⟩; (try replace sl2 := sl2.mono hm'); (try replace sl3 := sl3.mono hm'); (try (have hq0 : hm' = Mem.le_refl _ := rfl; clear hq0 hm'))) | (refine zsp ?_ ?_ <;> (intro hc; (try simp only [zhcs, reduceCtorEq] at hc); (try (exfalso; first | contradiction | omega | exact absurd rfl hc | exact absurd (by decide) hc))))))
  generalize (rU (t, false)).1 = n0 at hU hR ⊢
  generalize (rU (t, false)).2 = s0 at hUl hR ⊢
  refine At.own_nil cells 2 29 ?_
  (refine At.loopk (σ := OS) [4] (fun s F0 => (5, .slice s.p s.o.length s.c) :: (6, .int .u64 (s.n : Int)) :: F0) (fun s => m) (fun s => .own cells 2 29 s.p s.c s.o :: rd b4 s.s :: Rest) (fun s => s.f + s.o.length = 17 ∧ s.n < 18446744073709551616 ∧ s.s.1.length ≤ t.length ∧ rdl s.f s.n s.o s.s = ofR t ∧ (∀ x ∈ s.o, x.n.length ≤ 1000000000000 ∧ x.v.length ≤ 1000000000000)) (fun s => s.f) ⟨17, n0, [], s0, none, 0⟩ (by rfl) ?_ zsubs zml zente ?_)
  · exact ⟨rfl, hU, hUl, hR, fun x hx => by cases hx⟩
  rintro ⟨f, n, o, ⟨r, bd⟩, p, c⟩ ⟨h1, h2, h3, h4, h5⟩
  dsimp only at h1 h2 h3 h4 h5 ⊢
  by_cases hgo : 0 < f ∧ 0 < n ∧ bd = false
  · obtain ⟨f, rfl⟩ : ∃ k, f = k + 1 := ⟨f - 1, by omega⟩
    obtain ⟨n, rfl⟩ : ∃ k, n = k + 1 := ⟨n - 1, by omega⟩
    obtain ⟨-, -, rfl⟩ := hgo
    have h4' : rdl f n (o ++ [rdO (r, false)]) (rdS (r, false)) = ofR t := by
      rw [← h4]; show _ = (if _ then _ else _); rw [if_pos ⟨by omega, rfl⟩, Nat.add_sub_cancel]
    have hb := fun m => bad (m := m) b4 (r, false)
    have k1 := fun m => textR (m := m) b4 (r, false) 64 (by decide) (by show r.length ≤ _; omega)
    have hT1 := rT_le 64 (r, false)
    have hT2 := rdS_le (r, false)
    have hbd := rdO_bd (r, false)
    have k2 := fun m => textR (m := m) b4 (rT 64 (r, false)).2 128 (by decide) (by have : (r, false).1.length = r.length := rfl; omega)
    have hw : IntKind.wrap .u64 (((n + 1 : Nat) : Int) - 1) = (n : Int) := by rw [show ((n + 1 : Nat) : Int) - 1 = (n : Int) by omega]; exact IntWalk.u64_in _ (by omega)
    change rdl f n (o ++ [⟨(rT 64 (r, false)).1, (rT 128 (rT 64 (r, false)).2).1⟩]) (rT 128 (rT 64 (r, false)).2).2 = ofR t at h4'
    change (rT 128 (rT 64 (r, false)).2).2.1.length ≤ _ at hT2
    change (rT 64 (r, false)).1.length ≤ 64 ∧ (rT 128 (rT 64 (r, false)).2).1.length ≤ 128 at hbd
    generalize (rT 64 (r, false)).1 = X at *
    generalize (rT 64 (r, false)).2 = s1 at *
    generalize (rT 128 s1).1 = Y at *
    generalize (rT 128 s1).2 = s2 at *
    (repeat' (first | refine zss ?_ | ((first | (with_reducible first | apply At.val | apply AtQ.val)); (exact pr_sub (by rfl) (by rfl) hw); exact rfl) | refine zsO ?_ | ((with_reducible first | apply AtM1.cr | apply AtQ.cr | apply At.cr); exact rfl; exact rfl; exact fun _ hmm => hb _; exact ztk; kernel_rfl) | ((with_reducible first | apply At.c1 | apply At.c0); exact rfl; exact rfl; exact k1 _; exact ztk; kernel_rfl; rintro v' m' B' hm' ⟨rfl, rfl, rfl⟩; (try replace sl2 := sl2.mono hm'); (try replace sl3 := sl3.mono hm'); (try (have hq0 : hm' = Mem.le_refl _ := rfl; clear hq0 hm'))) | ((with_reducible first | apply At.c1 | apply At.c0); exact rfl; exact rfl; exact k2 _; exact ztk; kernel_rfl; rintro v' m' B' hm' ⟨rfl, rfl, rfl⟩; (try replace sl2 := sl2.mono hm'); (try replace sl3 := sl3.mono hm'); (try (have hq0 : hm' = Mem.le_refl _ := rfl; clear hq0 hm'))) | ((with_reducible apply At.litF cells [(⟨X, Y⟩ : Lab)]); exact inferInstance; (iterate 7 exact rfl); intro b' m' hm' sl2; (try replace sl3 := sl3.mono hm')) | ((with_reducible apply At.apW (f := cells) (l := o)); exact rfl; exact rfl; exact (by repeat constructor); exact inferInstance; exact zrdl; (iterate 4 exact rfl); exact zom; exact rfl; intro p2 c2) | (refine zsp ?_ ?_ <;> (intro hc; (try simp only [zhcs, reduceCtorEq] at hc); (try (exfalso; first | omega | contradiction | omega | exact absurd rfl hc | exact absurd (by decide) hc))))))
    all_goals ((with_reducible refine At.reachk ((⟨f, n, o ++ [⟨X, Y⟩], s2, p2, c2⟩ : OS)) ?_ ?_ ?_ ?_); exact zsubs; exact zml; exact zente; exact ⟨⟨by dsimp only; rw [List.length_append]; simp; omega, by dsimp only; omega, by dsimp only at hT2 ⊢; omega, h4', fun x hx => by
      rcases List.mem_append.1 hx with hx | hx
      · exact h5 x hx
      · rw [List.mem_singleton.1 hx]; exact ⟨by dsimp only; omega, by dsimp only; omega⟩⟩, by dsimp only; omega⟩)
  · have hfin : ofR t = (o, (r, bd)) := by
      rw [← h4]
      cases f with
      | zero => rfl
      | succ f => show (if _ then _ else _) = _; rw [if_neg fun k => hgo ⟨by omega, k.1, k.2⟩]
    have hb := fun m => bad (m := m) b4 (r, bd)
    have hlf := fun m => left (m := m) b4 (r, bd)
    have hck := fun (m' : Mem) sl => check (m := m') p c o (Mid.of h5) sl
    have hgo2 : bd = false → ¬ (0 < f ∧ 0 < n) := fun e k => hgo ⟨k.1, k.2, e⟩
    (refine At.own_freeze inferInstance (by repeat constructor) fun m' hm' sl3 => ?_; (try replace sl2 := sl2.mono hm'))
    have hok : okOf t ↔ bd = false ∧ r = [] ∧ right o := by unfold okOf; rw [hfin]
    have hoL : ofL t = if okOf t then o else [] := by unfold ofL; rw [hfin]
    by_cases hk : okOf t
    · rw [hoL, if_pos hk, show ofE t = 0 from if_pos hk]
      obtain ⟨rfl, rfl, hr⟩ := hok.1 hk
      rw [chk_ok hr] at hck
      have hg3 := hgo2 rfl
      (repeat' (first | (refine At.cutp (id := 4) (False) 22 [4, 5, 6] (by rfl) ?_ ?_) | refine zss ?_ | refine zs0 ?_ | ((with_reducible first | apply AtM1.cr | apply AtQ.cr | apply At.cr); exact rfl; exact rfl; exact fun _ hmm => hb _; exact ztk; kernel_rfl) | ((with_reducible first | apply AtM1.cr | apply AtQ.cr | apply At.cr); exact rfl; exact rfl; exact fun _ hmm => hlf _; exact ztk; kernel_rfl) | ((with_reducible first | apply AtM1.cr | apply AtQ.cr | apply At.cr); exact rfl; exact rfl; exact fun _ hmm => hck _ (sl3.mono hmm); exact ztk; kernel_rfl) | ((with_reducible apply At.endp); exact rfl; exact zsubs; exact zml; exact zente; (first | exact ⟨fun h => Bool.noConfusion h, fun h => h.elim⟩ | (simp only [decide_eq_true_eq, iff_false]; omega))) | (refine zsp ?_ ?_ <;> (intro hc; (try simp only [zhcs, reduceCtorEq] at hc); (try (exfalso; first | (first | omega | exact absurd hc (by decide)) | contradiction | omega | exact absurd rfl hc | exact absurd (by decide) hc))))))
      all_goals ((with_reducible apply At.retV (B := [])); exact rfl; (repeat' (first | exact RVs.nil | (with_reducible apply RVs.cons) | exact rv_tmp (by rfl) | exact rv_cellN (by rfl) (by repeat constructor) (by rfl) (by rfl) (by rfl) | exact rv_cell1 (by rfl) (by repeat constructor) (by rfl) (by rfl))); exact zml; exact zkp; exact ⟨rfl, p, c, rfl, sl3⟩)
    · rw [hoL, if_neg hk, show ofE t = 4 from if_neg hk]
      have hno : ¬ (bd = false ∧ r = [] ∧ right o) := fun k => hk (hok.2 k)
      have hcz : chk o = 0 → right o := fun k => chk_right.1 k
      generalize chk o = w at hck hcz
      cases bd
      all_goals
        first
          | have hg3 := hgo2 rfl
          | skip
        (repeat' (first | (refine At.cutp (id := 4) (False) 22 [4, 5, 6] (by rfl) ?_ ?_) | refine zss ?_ | refine zs0 ?_ | ((with_reducible first | apply AtM1.cr | apply AtQ.cr | apply At.cr); exact rfl; exact rfl; exact fun _ hmm => hb _; exact ztk; kernel_rfl) | ((with_reducible first | apply AtM1.cr | apply AtQ.cr | apply At.cr); exact rfl; exact rfl; exact fun _ hmm => hlf _; exact ztk; kernel_rfl) | ((with_reducible first | apply AtM1.cr | apply AtQ.cr | apply At.cr); exact rfl; exact rfl; exact fun _ hmm => hck _ (sl3.mono hmm); exact ztk; kernel_rfl) | ((with_reducible apply At.endp); exact rfl; exact zsubs; exact zml; exact zente; (first | exact ⟨fun h => Bool.noConfusion h, fun h => h.elim⟩ | (simp only [decide_eq_true_eq, iff_false]; omega))) | (refine zsp ?_ ?_ <;> (intro hc; (try simp only [zhcs, reduceCtorEq] at hc); (try (exfalso; first | (first | omega | exact absurd hc (by decide) | (rename_i hz; exact hno ⟨rfl, List.eq_nil_of_length_eq_zero (by have h9 : (([] : List UInt8), false).1.length = 0 := rfl; omega), hcz (by assumption)⟩)) | contradiction | omega | exact absurd rfl hc | exact absurd (by decide) hc))))))
        all_goals ((with_reducible apply At.retV (B := [])); exact rfl; (repeat' (first | exact RVs.nil | (with_reducible apply RVs.cons) | exact rv_tmp (by rfl) | exact rv_cellN (by rfl) (by repeat constructor) (by rfl) (by rfl) (by rfl) | exact rv_cell1 (by rfl) (by repeat constructor) (by rfl) (by rfl))); exact zml; exact zkp; exact ⟨rfl, none, 0, rfl, Sl.empty _ inferInstance⟩)
end Lb
end Go.Proofs.Ytjncahmbllmllaa
