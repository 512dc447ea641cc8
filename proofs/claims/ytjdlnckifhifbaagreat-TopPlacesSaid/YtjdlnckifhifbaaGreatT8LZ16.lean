/- TopPlaces: names that take places, and give them back, have each its own. No condition. -/
import Derived.Test.YtjdlnckifhifbaaGreatT8LZ15
/- TopPlaces: names that take places, and give them back, have each its own. No condition. -/
set_option linter.unusedSimpArgs false
set_option linter.unusedVariables false
set_option linter.unusedSectionVars false
set_option maxRecDepth 20000
set_option maxHeartbeats 4000000
namespace Go.Proofs.YtjdlnckifhifbaaGreat
open Go Go.J
attribute [local irreducible] At AtQ AtM AtM1 PR Ct Pu Rd Res.blk Res.own Res.ex Res.ch RVs RV Nm.R Fr.R
namespace Pl
open Nm Fr
structure Sit where
  (s : List UInt8) (g : Bool)
instance : Inhabited Sit := ⟨⟨[], false⟩⟩
abbrev fS : Sit → List Value := fun x => [.string (str x.s), .bool x.g]
instance : Fl fS 2 := ⟨fun _ => rfl, fun x v h => by
  simp at h
  rcases h with rfl | rfl <;> rfl, by decide⟩
theorem takeC {m : Mem} (b n : Nat) (buf buf' : List Nat) (x : Int) (w : Bool) (hg : Fr.good n buf) (hn : n ≤ 65536) (h : buf.tail = buf' ∧ ((buf.headD 0 : Nat) : Int) = x ∧ (!buf.isEmpty) = w) :
    Ct Tryz.prog 16 #[Fr.ptr b] m [Fr.R b n buf] (fun v m' B => v = .tuple #[.int .i64 x, .bool w] ∧ m = m' ∧ B = [Fr.R b n buf']) := by
  obtain ⟨rfl, rfl, rfl⟩ := h; exact Fr.take b n buf hg hn
theorem giveC {m : Mem} (b n : Nat) (buf buf' : List Nat) (q : Int) (w : Bool) (hg : Fr.good n buf) (hn : n ≤ 65536) (h : Fr.may n buf q = w ∧ Fr.giv n buf q = buf') :
    Ct Tryz.prog 15 #[Fr.ptr b, .int .i64 q] m [Fr.R b n buf] (fun v m' B => v = .bool w ∧ m = m' ∧ B = [Fr.R b n buf']) := by
  obtain ⟨rfl, rfl⟩ := h; exact Fr.give b n buf q hg hn
structure OX where
  (i : Nat) (buf : List Nat) (w : List Nmd)
set_option maxRecDepth 100000 in
theorem placesL {m : Mem} (q : Int) (p0 : Option Addr) (c0 : Nat) (l : List Sit) (sl0 : Sl m fS 2 p0 c0 l) :
    Ct Tryz.prog 5 #[.int .i64 q, .slice p0 l.length c0] m [] (fun v m' B => v = .bool true ∧ B = []) := by
  have hlv := fun (m' : Mem) (h : m.le m') => T8.begins8 (m := m')
  have kn := fun (m' : Mem) => Nm.new (m := m')
  by_cases hq : q < 1 ∨ 65536 < q
  · have kb := fun (m' : Mem) => Fr.newBad (m := m') q hq
    refine Ct.enterV (by rfl) Tryz.func5 rfl Tryz.ntmps5 rfl (fun w0 Rest => ?_)
    (repeat' (first | refine zss ?_ | refine zsM ?_ | ((with_reducible first | apply AtM1.cr | apply AtQ.cr | apply At.cr); exact rfl; exact rfl; exact fun _ hmm => hlv _ zml; exact ztk; kernel_rfl) | ((with_reducible first | apply At.c1 | apply At.c0); exact rfl; exact rfl; exact kb _; exact ztk; kernel_rfl; rintro v' m' B' hm' ⟨rfl, rfl, rfl⟩; (try replace sl0 := sl0.mono hm'); (try (have hq0 : hm' = Mem.le_refl _ := rfl; clear hq0 hm'))) | ((with_reducible first | apply At.c1 | apply At.c0); exact rfl; exact rfl; exact kn _; exact ztk; kernel_rfl; rintro v' m' B' hm' ⟨rfl, b, rfl, rfl⟩; (try replace sl0 := sl0.mono hm'); (try (have hq0 : hm' = Mem.le_refl _ := rfl; clear hq0 hm'))) | ((with_reducible apply At.alloc (d := 9)); exact rfl; exact rfl; intro b9) | (refine zsp ?_ ?_ <;> (intro hc; (try simp only [zhcs, reduceCtorEq] at hc); (try (exfalso; first | (first | omega | exact absurd rfl hc) | contradiction | omega | exact absurd rfl hc | exact absurd (by decide) hc))))))
    all_goals ((with_reducible apply At.retB1 (B := [])); exact rfl; exact rfl; exact zml; exact zkp; exact ⟨rfl, rfl⟩)
  obtain ⟨n, rfl⟩ : ∃ n : Nat, q = n := ⟨q.toNat, by omega⟩
  have hn3 : n ≤ 65536 := by omega
  have kf := fun (m' : Mem) => Fr.new (m := m') n (by omega) hn3
  by_cases hs0 : n ≤ 60 ∧ l.length ≤ 100
  rotate_left
  · refine Ct.enterV (by rfl) Tryz.func5 rfl Tryz.ntmps5 rfl (fun w0 Rest => ?_)
    (repeat' (first | (refine At.cutp (id := 7) (True) 50 [0, 1, 5, 7] (by rfl) ?_ ?_) | refine zss ?_ | refine zsM ?_ | ((with_reducible first | apply AtM1.cr | apply AtQ.cr | apply At.cr); exact rfl; exact rfl; exact fun _ hmm => hlv _ zml; exact ztk; kernel_rfl) | ((with_reducible first | apply At.c1 | apply At.c0); exact rfl; exact rfl; exact kf _; exact ztk; kernel_rfl; rintro v' m' B' hm' ⟨rfl, fb, rfl, rfl⟩; (try replace sl0 := sl0.mono hm'); (try (have hq0 : hm' = Mem.le_refl _ := rfl; clear hq0 hm'))) | ((with_reducible first | apply At.c1 | apply At.c0); exact rfl; exact rfl; exact kn _; exact ztk; kernel_rfl; rintro v' m' B' hm' ⟨rfl, b, rfl, rfl⟩; (try replace sl0 := sl0.mono hm'); (try (have hq0 : hm' = Mem.le_refl _ := rfl; clear hq0 hm'))) | ((with_reducible apply At.endp); exact rfl; exact zsubs; exact zml; exact zente; (first | (simp_all; done) | (simp_all <;> omega))) | ((with_reducible apply At.alloc (d := 9)); exact rfl; exact rfl; intro b9) | (refine zsp ?_ ?_ <;> (intro hc; (try simp only [zhcs, reduceCtorEq] at hc); (try (exfalso; first | (first | omega | exact absurd rfl hc | exact absurd trivial hc) | contradiction | omega | exact absurd rfl hc | exact absurd (by decide) hc))))))
    all_goals ((with_reducible apply At.retB1 (B := [])); exact rfl; exact rfl; exact zml; exact zkp; exact ⟨rfl, rfl⟩)
  refine Ct.enterV (by rfl) Tryz.func5 rfl Tryz.ntmps5 rfl (fun w0 Rest => ?_)
  (repeat' (first | refine zss ?_ | refine zsM ?_ | ((with_reducible first | apply AtM1.cr | apply AtQ.cr | apply At.cr); exact rfl; exact rfl; exact fun _ hmm => hlv _ zml; exact ztk; kernel_rfl) | ((with_reducible first | apply At.c1 | apply At.c0); exact rfl; exact rfl; exact kf _; exact ztk; kernel_rfl; rintro v' m' B' hm' ⟨rfl, fb, rfl, rfl⟩; (try replace sl0 := sl0.mono hm'); (try (have hq0 : hm' = Mem.le_refl _ := rfl; clear hq0 hm'))) | ((with_reducible first | apply At.c1 | apply At.c0); exact rfl; exact rfl; exact kn _; exact ztk; kernel_rfl; rintro v' m' B' hm' ⟨rfl, b, rfl, rfl⟩; (try replace sl0 := sl0.mono hm'); (try (have hq0 : hm' = Mem.le_refl _ := rfl; clear hq0 hm'))) | ((with_reducible apply At.alloc (d := 9)); exact rfl; exact rfl; intro b9) | (refine zsp ?_ ?_ <;> (intro hc; (try simp only [zhcs, reduceCtorEq] at hc); (try (exfalso; first | (first | omega | exact absurd rfl hc | exact absurd trivial hc) | contradiction | omega | exact absurd rfl hc | exact absurd (by decide) hc))))))
  obtain ⟨hn60, hl100⟩ := hs0
  clear hlv kn kf
  (refine At.loopk (σ := OX) [0, 5, 7, 51, 52] (fun s F0 => (53, .int .i64 (s.i : Int)) :: F0) (fun s => m) (fun s => Nm.R b s.w :: Fr.R fb n s.buf :: Rest) (fun s => s.i ≤ l.length ∧ srt s.w ∧ PI n s.w s.buf) (fun s => l.length - s.i) ⟨0, List.range n, []⟩ (by rfl) ?_ zsubs zml zente ?_)
  · exact ⟨Nat.zero_le _, fun i j _ h => absurd h (Nat.not_lt_zero _), PI.new n⟩
  rintro ⟨i, buf, w⟩ ⟨hi, hs, hI⟩
  dsimp only at hi hs hI ⊢
  have hlen := hI.len
  have hwl : w.length ≤ 1000000 := by omega
  by_cases h : i < l.length
  · by_cases hlong : (l[i]!).s.length ≤ 1000
    rotate_left
    · (repeat' (first | refine zss ?_ | refine zsM ?_ | ((with_reducible apply At.alloc (d := 9)); exact rfl; exact rfl; intro b9) | (refine zsp ?_ ?_ <;> (intro hc; (try simp only [zhcs, reduceCtorEq] at hc); (try (exfalso; first | (first | omega | exact absurd hc hlong) | contradiction | omega | exact absurd rfl hc | exact absurd (by decide) hc))))))
      all_goals ((with_reducible apply At.retB1 (B := [])); exact rfl; exact rfl; exact zml; exact zkp; exact ⟨rfl, rfl⟩)
    have k0 := fun (m' : Mem) => get (m := m') b w (l[i]!).s hs hwl
    have kl := fun (m' : Mem) => Nm.len (m := m') b w
    have kfl := fun (m' : Mem) => Fr.len (m := m') fb n buf
    have hsum : IntKind.wrap .i64 ((w.length : Int) + (buf.length : Int)) = (n : Int) := by rw [IntWalk.i64_in _ (by omega)]; omega
    cases hg : (l[i]!).g with
    | true =>
      have k1 := fun (m' : Mem) => Nm.drop (m := m') b w (l[i]!).s hs hwl
      have hs' := srt_drop hs (l[i]!).s
      cases hh : has w (l[i]!).s with
      | true =>
        obtain ⟨d1, d2, d3⟩ := hI.drop hs hh
        have k2 := fun (m' : Mem) => giveC (m := m') fb n buf _ (getP w (l[i]!).s) true hI.gd hn3 ⟨d2, rfl⟩
        rw [hh] at k0 k1
        have hlen2 := d3.len
        generalize getP w (l[i]!).s = gp at *
        generalize dropL w (l[i]!).s = w' at *
        generalize giv n buf gp = buf' at *
        have kl2 := fun (m' : Mem) => Nm.len (m := m') b w'
        have kfl2 := fun (m' : Mem) => Fr.len (m := m') fb n buf'
        have hsum2 : IntKind.wrap .i64 ((w'.length : Int) + (buf'.length : Int)) = (n : Int) := by rw [IntWalk.i64_in _ (by omega)]; omega
        clear hI kl kfl hsum d2
        (repeat' (first | refine zss ?_ | ((first | (with_reducible first | apply At.val | apply AtQ.val)); (exact pr_add (by rfl) (by rfl) hsum2); exact rfl) | refine zsM ?_ | ((with_reducible first | apply At.c1 | apply At.c0); exact rfl; exact rfl; exact k0 _; exact ztk; kernel_rfl; rintro v' m' B' hm' ⟨rfl, rfl, rfl⟩; (try replace sl0 := sl0.mono hm'); (try (have hq0 : hm' = Mem.le_refl _ := rfl; clear hq0 hm'))) | ((with_reducible first | apply At.c1 | apply At.c0); exact rfl; exact rfl; exact k1 _; exact ztk; kernel_rfl; rintro v' m' B' hm' ⟨rfl, rfl, rfl⟩; (try replace sl0 := sl0.mono hm'); (try (have hq0 : hm' = Mem.le_refl _ := rfl; clear hq0 hm'))) | ((with_reducible first | apply At.c1 | apply At.c0); exact rfl; exact rfl; exact k2 _; exact ztk; kernel_rfl; rintro v' m' B' hm' ⟨rfl, rfl, rfl⟩; (try replace sl0 := sl0.mono hm'); (try (have hq0 : hm' = Mem.le_refl _ := rfl; clear hq0 hm'))) | ((with_reducible first | apply AtM1.cr | apply AtQ.cr | apply At.cr); exact rfl; exact rfl; exact fun _ hmm => kl2 _; exact ztk; kernel_rfl) | ((with_reducible first | apply AtM1.cr | apply AtQ.cr | apply At.cr); exact rfl; exact rfl; exact fun _ hmm => kfl2 _; exact ztk; kernel_rfl) | ((with_reducible apply At.alloc (d := 9)); exact rfl; exact rfl; intro b9) | (refine zsp ?_ ?_ <;> (intro hc; (try simp only [zhcs, reduceCtorEq] at hc); (try (exfalso; first | (first | omega | exact absurd (hc.symm.trans hg) (by decide) | exact absurd (hg.symm.trans hc) (by decide) | exact absurd rfl hc | exact hc hg) | contradiction | omega | exact absurd rfl hc | exact absurd (by decide) hc))))))
        all_goals ((with_reducible refine At.reachk ((⟨i + 1, buf', w'⟩ : OX)) ?_ ?_ ?_ ?_); exact zsubs; exact zml; exact zente; exact ⟨⟨h, hs', d3⟩, by show l.length - (i + 1) < l.length - i; omega⟩)
      | false =>
        rw [hh] at k0 k1
        rw [drop_none hh] at k1
        clear hs'
        generalize getP w (l[i]!).s = gp at *
        (repeat' (first | refine zss ?_ | ((first | (with_reducible first | apply At.val | apply AtQ.val)); (exact pr_add (by rfl) (by rfl) hsum); exact rfl) | refine zsM ?_ | ((with_reducible first | apply At.c1 | apply At.c0); exact rfl; exact rfl; exact k0 _; exact ztk; kernel_rfl; rintro v' m' B' hm' ⟨rfl, rfl, rfl⟩; (try replace sl0 := sl0.mono hm'); (try (have hq0 : hm' = Mem.le_refl _ := rfl; clear hq0 hm'))) | ((with_reducible first | apply At.c1 | apply At.c0); exact rfl; exact rfl; exact k1 _; exact ztk; kernel_rfl; rintro v' m' B' hm' ⟨rfl, rfl, rfl⟩; (try replace sl0 := sl0.mono hm'); (try (have hq0 : hm' = Mem.le_refl _ := rfl; clear hq0 hm'))) | ((with_reducible first | apply AtM1.cr | apply AtQ.cr | apply At.cr); exact rfl; exact rfl; exact fun _ hmm => kl _; exact ztk; kernel_rfl) | ((with_reducible first | apply AtM1.cr | apply AtQ.cr | apply At.cr); exact rfl; exact rfl; exact fun _ hmm => kfl _; exact ztk; kernel_rfl) | ((with_reducible apply At.alloc (d := 9)); exact rfl; exact rfl; intro b9) | (refine zsp ?_ ?_ <;> (intro hc; (try simp only [zhcs, reduceCtorEq] at hc); (try (exfalso; first | (first | omega | exact absurd (hc.symm.trans hg) (by decide) | exact absurd (hg.symm.trans hc) (by decide) | exact absurd rfl hc | exact hc hg) | contradiction | omega | exact absurd rfl hc | exact absurd (by decide) hc))))))
        all_goals ((with_reducible refine At.reachk ((⟨i + 1, buf, w⟩ : OX)) ?_ ?_ ?_ ?_); exact zsubs; exact zml; exact zente; exact ⟨⟨h, hs, hI⟩, by show l.length - (i + 1) < l.length - i; omega⟩)
    | false =>
      cases hh : has w (l[i]!).s with
      | true =>
        rw [hh] at k0
        have k3 := fun (m' : Mem) => put (m := m') b w (l[i]!).s (getP w (l[i]!).s) hs hwl
        have e3 : putL w (l[i]!).s (getP w (l[i]!).s) = w := if_pos hh
        rw [hh, e3] at k3
        clear e3
        generalize getP w (l[i]!).s = gp at *
        (repeat' (first | refine zss ?_ | ((first | (with_reducible first | apply At.val | apply AtQ.val)); (exact pr_add (by rfl) (by rfl) hsum); exact rfl) | refine zsM ?_ | ((with_reducible first | apply At.c1 | apply At.c0); exact rfl; exact rfl; exact k0 _; exact ztk; kernel_rfl; rintro v' m' B' hm' ⟨rfl, rfl, rfl⟩; (try replace sl0 := sl0.mono hm'); (try (have hq0 : hm' = Mem.le_refl _ := rfl; clear hq0 hm'))) | ((with_reducible first | apply At.c1 | apply At.c0); exact rfl; exact rfl; exact k3 _; exact ztk; kernel_rfl; rintro v' m' B' hm' ⟨rfl, rfl, rfl⟩; (try replace sl0 := sl0.mono hm'); (try (have hq0 : hm' = Mem.le_refl _ := rfl; clear hq0 hm'))) | ((with_reducible first | apply AtM1.cr | apply AtQ.cr | apply At.cr); exact rfl; exact rfl; exact fun _ hmm => kl _; exact ztk; kernel_rfl) | ((with_reducible first | apply AtM1.cr | apply AtQ.cr | apply At.cr); exact rfl; exact rfl; exact fun _ hmm => kfl _; exact ztk; kernel_rfl) | ((with_reducible apply At.alloc (d := 9)); exact rfl; exact rfl; intro b9) | (refine zsp ?_ ?_ <;> (intro hc; (try simp only [zhcs, reduceCtorEq] at hc); (try (exfalso; first | (first | omega | exact absurd (hc.symm.trans hg) (by decide) | exact absurd (hg.symm.trans hc) (by decide) | exact absurd rfl hc | exact hc hg) | contradiction | omega | exact absurd rfl hc | exact absurd (by decide) hc))))))
        all_goals ((with_reducible refine At.reachk ((⟨i + 1, buf, w⟩ : OX)) ?_ ?_ ?_ ?_); exact zsubs; exact zml; exact zente; exact ⟨⟨h, hs, hI⟩, by show l.length - (i + 1) < l.length - i; omega⟩)
      | false =>
        rw [hh] at k0
        generalize getP w (l[i]!).s = gp at *
        cases buf with
        | nil =>
          have k4 := fun (m' : Mem) => takeC (m := m') fb n [] [] 0 false hI.gd hn3 ⟨rfl, rfl, rfl⟩
          have hwn : w.length = n := hlen
          (repeat' (first | refine zss ?_ | ((first | (with_reducible first | apply At.val | apply AtQ.val)); (exact pr_add (by rfl) (by rfl) hsum); exact rfl) | refine zsM ?_ | ((with_reducible first | apply At.c1 | apply At.c0); exact rfl; exact rfl; exact k0 _; exact ztk; kernel_rfl; rintro v' m' B' hm' ⟨rfl, rfl, rfl⟩; (try replace sl0 := sl0.mono hm'); (try (have hq0 : hm' = Mem.le_refl _ := rfl; clear hq0 hm'))) | ((with_reducible first | apply At.c1 | apply At.c0); exact rfl; exact rfl; exact k4 _; exact ztk; kernel_rfl; rintro v' m' B' hm' ⟨rfl, rfl, rfl⟩; (try replace sl0 := sl0.mono hm'); (try (have hq0 : hm' = Mem.le_refl _ := rfl; clear hq0 hm'))) | ((with_reducible first | apply AtM1.cr | apply AtQ.cr | apply At.cr); exact rfl; exact rfl; exact fun _ hmm => kl _; exact ztk; kernel_rfl) | ((with_reducible first | apply AtM1.cr | apply AtQ.cr | apply At.cr); exact rfl; exact rfl; exact fun _ hmm => kfl _; exact ztk; kernel_rfl) | ((with_reducible apply At.alloc (d := 9)); exact rfl; exact rfl; intro b9) | (refine zsp ?_ ?_ <;> (intro hc; (try simp only [zhcs, reduceCtorEq] at hc); (try (exfalso; first | (first | omega | exact absurd (hc.symm.trans hg) (by decide) | exact absurd (hg.symm.trans hc) (by decide) | exact absurd rfl hc | exact hc hg | exact hc | (simp at hc; omega)) | contradiction | omega | exact absurd rfl hc | exact absurd (by decide) hc))))))
          all_goals ((with_reducible refine At.reachk ((⟨i + 1, [], w⟩ : OX)) ?_ ?_ ?_ ?_); exact zsubs; exact zml; exact zente; exact ⟨⟨h, hs, hI⟩, by show l.length - (i + 1) < l.length - i; omega⟩)
        | cons x buf =>
          have hxl : (x :: buf).length = buf.length + 1 := rfl
          have k4 := fun (m' : Mem) => takeC (m := m') fb n (x :: buf) buf (x : Int) true hI.gd hn3 ⟨rfl, rfl, rfl⟩
          have k5 := fun (m' : Mem) => put (m := m') b w (l[i]!).s (x : Int) hs hwl
          rw [hh] at k5
          obtain ⟨hxn, hI2⟩ := hI.take hh
          have hs2 := srt_put hs (l[i]!).s (x : Int)
          have hlen2 := hI2.len
          generalize putL w (l[i]!).s (x : Int) = w' at *
          have kl2 := fun (m' : Mem) => Nm.len (m := m') b w'
          have kfl2 := fun (m' : Mem) => Fr.len (m := m') fb n buf
          have hsum2 : IntKind.wrap .i64 ((w'.length : Int) + (buf.length : Int)) = (n : Int) := by rw [IntWalk.i64_in _ (by omega)]; omega
          have hwn : w.length < n := by omega
          clear hI kfl hsum
          (repeat' (first | refine zss ?_ | ((first | (with_reducible first | apply At.val | apply AtQ.val)); (exact pr_add (by rfl) (by rfl) hsum2); exact rfl) | refine zsM ?_ | ((with_reducible first | apply At.c1 | apply At.c0); exact rfl; exact rfl; exact k0 _; exact ztk; kernel_rfl; rintro v' m' B' hm' ⟨rfl, rfl, rfl⟩; (try replace sl0 := sl0.mono hm'); (try (have hq0 : hm' = Mem.le_refl _ := rfl; clear hq0 hm'))) | ((with_reducible first | apply At.c1 | apply At.c0); exact rfl; exact rfl; exact k4 _; exact ztk; kernel_rfl; rintro v' m' B' hm' ⟨rfl, rfl, rfl⟩; (try replace sl0 := sl0.mono hm'); (try (have hq0 : hm' = Mem.le_refl _ := rfl; clear hq0 hm'))) | ((with_reducible first | apply At.c1 | apply At.c0); exact rfl; exact rfl; exact k5 _; exact ztk; kernel_rfl; rintro v' m' B' hm' ⟨rfl, rfl, rfl⟩; (try replace sl0 := sl0.mono hm'); (try (have hq0 : hm' = Mem.le_refl _ := rfl; clear hq0 hm'))) | ((with_reducible first | apply AtM1.cr | apply AtQ.cr | apply At.cr); exact rfl; exact rfl; exact fun _ hmm => kl _; exact ztk; kernel_rfl) | ((with_reducible first | apply AtM1.cr | apply AtQ.cr | apply At.cr); exact rfl; exact rfl; exact fun _ hmm => kl2 _; exact ztk; kernel_rfl) | ((with_reducible first | apply AtM1.cr | apply AtQ.cr | apply At.cr); exact rfl; exact rfl; exact fun _ hmm => kfl2 _; exact ztk; kernel_rfl) | ((with_reducible apply At.alloc (d := 9)); exact rfl; exact rfl; intro b9) | (refine zsp ?_ ?_ <;> (intro hc; (try simp only [zhcs, reduceCtorEq] at hc); (try (exfalso; first | (first | omega | exact absurd (hc.symm.trans hg) (by decide) | exact absurd (hg.symm.trans hc) (by decide) | exact absurd rfl hc | exact hc hg | exact hc | (simp at hc; omega)) | contradiction | omega | exact absurd rfl hc | exact absurd (by decide) hc))))))
          all_goals ((with_reducible refine At.reachk ((⟨i + 1, buf, w'⟩ : OX)) ?_ ?_ ?_ ?_); exact zsubs; exact zml; exact zente; exact ⟨⟨h, hs2, hI2⟩, by show l.length - (i + 1) < l.length - i; omega⟩)
  have ka := fun (m' : Mem) => all (m := m') b w hs hwl
  have hA : (w.map Nmd.s).length = w.length := List.length_map ..
  have hAi : ∀ i, i < w.length → (w.map Nmd.s)[i]! = (w[i]!).s := fun i hi => by rw [getElem!_pos _ i (by rw [List.length_map]; exact hi), getElem!_pos w i hi, List.getElem_map]
  generalize w.map Nmd.s = A at *
  have kl := fun (m' : Mem) => Nm.len (m := m') b w
  have hrep := tab_nil n
  have htl : ∀ L, (tab n L).length = n := fun L => tab_len n L
  (repeat' (first | refine zss ?_ | refine zsOM ?_ | ((with_reducible apply At.makeN (f := Ls.fO) (false)); exact inferInstance; (iterate 5 exact rfl); exact zlq; exact rfl; exact zom; exact rfl; intro bs) | ((with_reducible first | apply At.c1 | apply At.c0); exact rfl; exact rfl; exact ka _; exact ztk; kernel_rfl; rintro v' m' B' hm' ⟨rfl, p1, c1, rfl, rfl⟩; (try replace sl0 := sl0.mono hm'); (try (have hq0 : hm' = Mem.le_refl _ := rfl; clear hq0 hm'))) | ((with_reducible apply At.alloc (d := 9)); exact rfl; exact rfl; intro b9) | (refine zsp ?_ ?_ <;> (intro hc; (try simp only [zhcs, reduceCtorEq] at hc); (try (exfalso; first | omega | contradiction | omega | exact absurd rfl hc | exact absurd (by decide) hc))))))
  rw [hrep]
  clear ka hrep
  (refine At.loopk (σ := Nat) [0, 5, 7, 14, 137, 138] (fun s F0 => (139, .int .i64 (s : Int)) :: F0) (fun s => m) (fun s => oS p1 c1 A :: Nm.R b w :: .own Ls.fO 1 4 (some ⟨bs, 0, none⟩) n (tab n ((w.take s).map fun x => x.p.toNat)) :: Fr.R fb n buf :: Rest) (fun s => s ≤ w.length) (fun s => w.length - s) 0 (by rfl) ?_ zsubs zml zente ?_)
  · exact Nat.zero_le _
  rintro j hj
  have hts := htl ((w.take j).map fun x => x.p.toNat)
  by_cases hjl : j < w.length
  · have k0 := fun (m' : Mem) => get (m := m') b w A[j]! hs hwl
    obtain ⟨s1, s2, s3, s4, s5, s6⟩ := seen_step hI hs hjl
    rw [hAi j hjl, s1, s2, s3] at k0
    rw [← hAi j hjl] at k0
    clear s1 s2 s3 hI hs
    generalize (w[j]!).p.toNat = pn at *
    (repeat' (first | refine zss ?_ | refine zsOM ?_ | ((with_reducible first | apply At.c1 | apply At.c0); exact rfl; exact rfl; exact k0 _; exact ztk; kernel_rfl; rintro v' m' B' hm' ⟨rfl, rfl, rfl⟩; (try replace sl0 := sl0.mono hm'); (try (have hq0 : hm' = Mem.le_refl _ := rfl; clear hq0 hm'))) | ((with_reducible apply At.storeW (f := Ls.fO) (x' := true)); (case hx => exact rfl); (case hy => exact rfl); (case hv => exact rfl); (case hp => exact (by repeat constructor)); (case hr => exact rfl); (case hf => exact inferInstance); (case hk => exact zom); (case hs => exact rfl); (case hq => exact rfl); (case h1 => exact rfl)) | ((with_reducible apply At.alloc (d := 9)); exact rfl; exact rfl; intro b9) | (refine zsp ?_ ?_ <;> (intro hc; (try simp only [zhcs, reduceCtorEq] at hc); (try (exfalso; first | (first | omega | exact absurd rfl hc | exact absurd (hc.symm.trans s5) (by decide) | exact absurd (s5.symm.trans hc) (by decide) | (rw [s5] at hc; exact absurd hc (by decide))) | contradiction | omega | exact absurd rfl hc | exact absurd (by decide) hc))))))
    all_goals (try rw [s6])
    all_goals ((with_reducible refine At.reachk ((j + 1)) ?_ ?_ ?_ ?_); exact zsubs; exact zml; exact zente; exact ⟨hjl, by omega⟩)
  rw [List.take_of_length_le (by omega)]
  have hsb : IntKind.wrap .i64 ((n : Int) - (w.length : Int)) = (buf.length : Int) := by rw [IntWalk.i64_in _ (by omega)]; omega
  (repeat' (first | refine zss ?_ | ((first | (with_reducible first | apply At.val | apply AtQ.val)); (exact pr_sub (by rfl) (by rfl) hsb); exact rfl) | refine zsOM ?_ | ((with_reducible first | apply AtM1.cr | apply AtQ.cr | apply At.cr); exact rfl; exact rfl; exact fun _ hmm => kl _; exact ztk; kernel_rfl) | ((with_reducible apply At.alloc (d := 9)); exact rfl; exact rfl; intro b9) | (refine zsp ?_ ?_ <;> (intro hc; (try simp only [zhcs, reduceCtorEq] at hc); (try (exfalso; first | omega | contradiction | omega | exact absurd rfl hc | exact absurd (by decide) hc))))))
  rw [show tab n (w.map fun x => x.p.toNat) = tab n ((w.map fun x => x.p.toNat) ++ buf.take 0) by rw [List.take_zero, List.append_nil], show Fr.R fb n buf = Fr.R fb n (buf.drop 0) by rw [List.drop_zero]]
  clear hts hjl hsb kl
  (refine At.loopk (σ := Nat) [0, 5, 14, 173] (fun s F0 => (174, .int .i64 (s : Int)) :: F0) (fun s => m) (fun s => Fr.R fb n (buf.drop s) :: .own Ls.fO 1 4 (some ⟨bs, 0, none⟩) n (tab n ((w.map fun x => x.p.toNat) ++ buf.take s)) :: Rest) (fun s => s ≤ buf.length) (fun s => buf.length - s) 0 (by rfl) ?_ zsubs zml zente ?_)
  · exact Nat.zero_le _
  rintro j hj
  have hts := htl ((w.map fun x => x.p.toNat) ++ buf.take j)
  by_cases hjl : j < buf.length
  · obtain ⟨s1, s2, s3, s4, s5⟩ := free_step hI hjl
    rw [s1] at s2 ⊢
    have k0 := fun (m' : Mem) => takeC (m := m') fb n (buf[j]! :: buf.drop (j + 1)) (buf.drop (j + 1)) (buf[j]! : Int) true s2 hn3 ⟨rfl, rfl, rfl⟩
    clear s1 s2 hI hs
    generalize buf[j]! = pn at *
    (repeat' (first | refine zss ?_ | refine zsOM ?_ | ((with_reducible first | apply At.c1 | apply At.c0); exact rfl; exact rfl; exact k0 _; exact ztk; kernel_rfl; rintro v' m' B' hm' ⟨rfl, rfl, rfl⟩; (try replace sl0 := sl0.mono hm'); (try (have hq0 : hm' = Mem.le_refl _ := rfl; clear hq0 hm'))) | ((with_reducible apply At.storeW (f := Ls.fO) (x' := true)); (case hx => exact rfl); (case hy => exact rfl); (case hv => exact rfl); (case hp => exact (by repeat constructor)); (case hr => exact rfl); (case hf => exact inferInstance); (case hk => exact zom); (case hs => exact rfl); (case hq => exact rfl); (case h1 => exact rfl)) | ((with_reducible apply At.alloc (d := 9)); exact rfl; exact rfl; intro b9) | (refine zsp ?_ ?_ <;> (intro hc; (try simp only [zhcs, reduceCtorEq] at hc); (try (exfalso; first | (first | omega | exact absurd rfl hc | exact absurd (hc.symm.trans s4) (by decide) | exact absurd (s4.symm.trans hc) (by decide) | (rw [s4] at hc; exact absurd hc (by decide))) | contradiction | omega | exact absurd rfl hc | exact absurd (by decide) hc))))))
    all_goals (try rw [s5])
    all_goals ((with_reducible refine At.reachk ((j + 1)) ?_ ?_ ?_ ?_); exact zsubs; exact zml; exact zente; exact ⟨hjl, by omega⟩)
  rw [List.drop_eq_nil_of_le (by omega : buf.length ≤ j)]
  have k0 := fun (m' : Mem) => takeC (m := m') fb n [] [] 0 false ⟨List.nodup_nil, fun _ h => absurd h List.not_mem_nil⟩ hn3 ⟨rfl, rfl, rfl⟩
  (repeat' (first | refine zss ?_ | refine zsOM ?_ | ((with_reducible first | apply At.c1 | apply At.c0); exact rfl; exact rfl; exact k0 _; exact ztk; kernel_rfl; rintro v' m' B' hm' ⟨rfl, rfl, rfl⟩; (try replace sl0 := sl0.mono hm'); (try (have hq0 : hm' = Mem.le_refl _ := rfl; clear hq0 hm'))) | ((with_reducible apply At.alloc (d := 9)); exact rfl; exact rfl; intro b9) | (refine zsp ?_ ?_ <;> (intro hc; (try simp only [zhcs, reduceCtorEq] at hc); (try (exfalso; first | omega | contradiction | omega | exact absurd rfl hc | exact absurd (by decide) hc))))))
  all_goals ((with_reducible apply At.retB1 (B := [])); exact rfl; exact rfl; exact zml; exact zkp; exact ⟨rfl, rfl⟩)
open Go.RowKit in
theorem dec_sit {H : Type} {enc : TypeId × Value → H} {P : Program} {W : World} : ∀ cs, Go.J.Fit enc P W [.str, .bool] cs → ∃ a : Sit, cs = fS a ∧ True := by
  intro cs h
  obtain ⟨_, _, rfl, h1, h⟩ := h.cons
  obtain ⟨_, _, rfl, h2, h⟩ := h.cons
  obtain rfl := h.nil
  obtain ⟨a, rfl, _⟩ := h1.str
  obtain ⟨t, rfl⟩ := h2.bool
  exact ⟨⟨a, t⟩, rfl, trivial⟩
end Pl
namespace TopPlacesL
open Go.ChangeShapes Go.WideShapes Go.ChangeAt Go.RowKit
open Go.ChangeMaps (open_string shut_string)
theorem own : ownKnob Tryz.prog.godebug = none := by kernel_rfl
theorem laidOut : laidOutB Tryz.prog = true := by kernel_rfl
set_option maxRecDepth 100000 in
theorem lifted (os : Os) (started : os.Started) (H : Type) (enc : TypeId × Value → H) :
    ReturnsInHanded {} Tryz.checked os 5 .any (Rows.topPlacesSpec.pre6 enc Tryz.prog Tryz.f5 Rows.topPlacesRow.domain false) (Rows.topPlacesSpec.post enc Tryz.prog Tryz.f5 false true false false) := by
  refine returnsInHanded_of_change (C := Tryz.checked) own started (by kernel_rfl) Tryz.func5
    (ChangeSpec.witness6 (enc := enc) (C := Tryz.checked) false ⟨#[], #[.int .i64 0, .slice none 0 0], []⟩ 8 (by kernel_rfl) (by kernel_rfl) (by kernel_rfl) (by kernel_rfl)) ?_
  intro W base args ds gs before hval0 hW hcnd _
  have hval : ∀ (j : Nat) t v, Tryz.f5.params[j]? = some t → args[j]? = some v → Value.okWide Tryz.prog W .any base t v := hval0
  have hW' := hW
  obtain ⟨p, q, hA0, hV, rfl, hfz, hnd⟩ := hW
  have hA : DataW.TrodAll enc Tryz.prog W 0 (fun _ => true) true Tryz.f5.params.toList args.toList ds p := hA0
  rw [Tryz.params5] at hA hval
  obtain ⟨rfl, rfl⟩ := trodVars_none hV
  have hlt : ∀ x ∈ p, x.block < W.heap.size := fun x hx => hW'.lt x (by simpa using hx)
  have hback := fun (W' : World) (bel : Below W.heap.size W W') => trodAll_below laidOut bel _ _ _ _ (by kernel_rfl) hA hlt
  obtain ⟨v0, vs0, d0, ds0, p0, q0, hargs, rfl, rfl, h0, r0⟩ := trodAll_cons hA
  obtain ⟨v1, vs1, d1, ds1, p1, q1, rfl, rfl, rfl, h1, r1⟩ := trodAll_cons r0
  obtain ⟨rfl, rfl, rfl⟩ := trodAll_nil r1
  obtain rfl : args = #[v0, v1] := by cases args; simp_all
  obtain ⟨a0, rfl, rfl, rfl, w0⟩ := open_int Tryz.underlying3 (hval 0 3 v0 rfl rfl) h0
  obtain ⟨p1, c1, a1, rfl, s1, w1⟩ := open_sl_arg (f := Pl.fS) (sz := 2) inferInstance (fun _ => True) Tryz.underlying54 (by rfl) (dec_flat' [.str, .bool] (by kernel_rfl) Pl.dec_sit) (okWide_slice Tryz.underlying54 (hval 1 54 v1 rfl rfl)) h1
  refine (law_calls (Ct.mono (Pl.placesL (m := memOf W) a0 p1 c1 a1 s1) fun v m' B _ h => h.1)).mono fun e W' ⟨he, bel⟩ => ?_
  subst he
  exact ⟨_, rfl, _, _, _, [], _, [], hW', trodAll_mk1 (shut_bool Tryz.underlying4 _), hback W' bel, rfl, bel.frame _, fun h => by cases h⟩
theorem over : Rows.topPlacesRow.holds Tryz.pinned (OpenSpec.ofChange Rows.topPlacesSpec) :=
  OpenClaim.holds_of_wide 5 Tryz.f5 rfl rfl rfl rfl rfl rfl rfl ⟨rfl, rfl, rfl, rfl, rfl⟩ rfl rfl rfl rfl rfl (by kernel_rfl) Tryz.func5 (by kernel_rfl)
    (of_decide_eq_true (by kernel_rfl)) (by unfold Func.isWrapper; first | (rw [if_pos (by decide +kernel)]; kernel_rfl) | (rw [if_neg (by decide +kernel)]; exact ⟨rfl, rfl⟩))
    (fun os started H enc _ => lifted os started H enc)
theorem proved : Rows.TopPlacesSaid := over
end TopPlacesL
end Go.Proofs.YtjdlnckifhifbaaGreat
