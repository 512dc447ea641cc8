/- The contracts of matchers. -/
import Derived.Test.YtjncahmbllmllaaMtP
import Derived.Test.YtjncahmbllmllaaLbQ
import Derived.Test.YtjncahmbllmllaaNmA
import Derived.Test.YtjncahmbllmllaaJT
set_option linter.unusedSimpArgs false
set_option linter.unusedVariables false
set_option linter.unusedSectionVars false
set_option maxRecDepth 20000
set_option maxHeartbeats 4000000
namespace Go.Proofs.Ytjncahmbllmllaa
open Go Go.J
attribute [local irreducible] At AtQ AtM AtM1 PR Ct Pu Rd Res.blk Res.own Res.ex RVs RV
namespace Mt
theorem pre_iff (t s : List UInt8) : t <+: s ↔ t.length ≤ s.length ∧ s.take t.length = t := ⟨fun h => ⟨h.length_le, (List.prefix_iff_eq_take.1 h).symm⟩, fun h => List.prefix_iff_eq_take.2 h.2.symm⟩
theorem hits {m : Mem} (x : Mat) (p : Option Addr) (c : Nat) (l : List Lab) (hl : l.length ≤ 1000000000) (sl0 : Sl m Lb.cells 2 p c l) :
    Rd Try.prog 18 #[x.val, .slice p l.length c] m [] (.bool (hit x l)) := by
  unfold Rd
  have hv := fun (m' : Mem) (hm : m.le m') => Lb.value (m := m') p c l x.n hl (sl0.mono hm)
  have hp := Nm.hasPre (Lb.val l x.n) x.v
  by_cases h1 : x.k = 1
  · rw [hit1 h1]
    generalize Lb.val l x.n = V at hv
    refine Ct.enterV (by rfl) Try.func18 rfl Try.ntmps18 rfl (fun w0 Rest => ?_)
    (repeat' (first | refine zss ?_ | refine zsM ?_ | ((with_reducible first | apply AtM1.cr | apply AtQ.cr | apply At.cr); exact rfl; exact rfl; exact fun _ hmm => hv _ hmm; exact ztk; kernel_rfl) | ((with_reducible apply At.box (d := 2)); exact rfl; exact rfl; exact rfl; intro b2) | (refine zsp ?_ ?_ <;> (intro hc; (try simp only [zhcs, reduceCtorEq] at hc); (try (exfalso; first | omega | contradiction | omega | exact absurd rfl hc | exact absurd (by decide) hc))))))
    all_goals ((with_reducible apply At.retB1 (B := [])); exact rfl; exact rfl; exact zml; exact zkp; exact ⟨congrArg Value.bool (by simp [str_inj]), rfl, rfl⟩)
  by_cases h2 : x.k = 2
  · rw [hit2 h2]
    generalize Lb.val l x.n = V at hv
    refine Ct.enterV (by rfl) Try.func18 rfl Try.ntmps18 rfl (fun w0 Rest => ?_)
    (repeat' (first | refine zss ?_ | refine zsM ?_ | ((with_reducible first | apply AtM1.cr | apply AtQ.cr | apply At.cr); exact rfl; exact rfl; exact fun _ hmm => hv _ hmm; exact ztk; kernel_rfl) | ((with_reducible apply At.box (d := 2)); exact rfl; exact rfl; exact rfl; intro b2) | (refine zsp ?_ ?_ <;> (intro hc; (try simp only [zhcs, reduceCtorEq] at hc); (try (exfalso; first | omega | contradiction | omega | exact absurd rfl hc | exact absurd (by decide) hc))))))
    all_goals ((with_reducible apply At.retB1 (B := [])); exact rfl; exact rfl; exact zml; exact zkp; exact ⟨congrArg Value.bool (by simp [str_inj]), rfl, rfl⟩)
  by_cases h3 : x.k = 3
  · rw [hit3 h3]
    generalize Lb.val l x.n = V at hv hp
    refine Ct.enterV (by rfl) Try.func18 rfl Try.ntmps18 rfl (fun w0 Rest => ?_)
    (repeat' (first | refine zss ?_ | refine zsM ?_ | ((with_reducible first | apply AtM1.cr | apply AtQ.cr | apply At.cr); exact rfl; exact rfl; exact fun _ hmm => hv _ hmm; exact ztk; kernel_rfl) | ((with_reducible first | apply AtM1.callp | apply AtQ.callp | apply At.callp); kernel_rfl; exact rfl; exact rfl; exact hp) | ((with_reducible apply At.box (d := 2)); exact rfl; exact rfl; exact rfl; intro b2) | (refine zsp ?_ ?_ <;> (intro hc; (try simp only [zhcs, reduceCtorEq] at hc); (try (exfalso; first | omega | contradiction | omega | exact absurd rfl hc | exact absurd (by decide) hc))))))
    all_goals ((with_reducible apply At.retB1 (B := [])); exact rfl; exact rfl; exact zml; exact zkp; exact ⟨rfl, rfl, rfl⟩)
  · rw [hit0 h1 h2 h3]
    generalize Lb.val l x.n = V at hv
    refine Ct.enterV (by rfl) Try.func18 rfl Try.ntmps18 rfl (fun w0 Rest => ?_)
    (repeat' (first | refine zss ?_ | refine zsM ?_ | ((with_reducible first | apply AtM1.cr | apply AtQ.cr | apply At.cr); exact rfl; exact rfl; exact fun _ hmm => hv _ hmm; exact ztk; kernel_rfl) | ((with_reducible apply At.box (d := 2)); exact rfl; exact rfl; exact rfl; intro b2) | (refine zsp ?_ ?_ <;> (intro hc; (try simp only [zhcs, reduceCtorEq] at hc); (try (exfalso; first | omega | contradiction | omega | exact absurd rfl hc | exact absurd (by decide) hc))))))
    all_goals ((with_reducible apply At.retB1 (B := [])); exact rfl; exact rfl; exact zml; exact zkp; exact ⟨rfl, rfl, rfl⟩)
abbrev pt (b : Nat) : Value := .pointer (some ⟨b, 0, none⟩)
abbrev bx (b : Nat) (p : Option Addr) (n c : Nat) : List Res := [.blk b 22 [.slice p n c]]
theorem all1 {m : Mem} (b : Nat) (x : Mat) (p : Option Addr) (c : Nat) (l : List Lab) (w : Bool) (hl : l.length ≤ 1000000000) (sl0 : Sl m Lb.cells 2 p c l) (h : hit x l = w) :
    Ct Try.prog 27 #[x.val, pt b] m (bx b p l.length c) (fun v m' B => v = .bool (!w) ∧ m = m' ∧ B = bx b p l.length c) := by
  subst h
  have hh := fun (m' : Mem) (hm : m.le m') => hits (m := m') x p c l hl (sl0.mono hm)
  refine Ct.enterV (by rfl) Try.func27 rfl Try.ntmps27 rfl (fun w0 Rest => ?_)
  (repeat' (first | refine zss ?_ | refine zs0 ?_ | ((with_reducible first | apply AtM1.cr | apply AtQ.cr | apply At.cr); exact rfl; exact rfl; exact fun _ hmm => hh _ hmm; exact ztk; kernel_rfl) | ((with_reducible apply At.box (d := 2)); exact rfl; exact rfl; exact rfl; intro b2) | (refine zsp ?_ ?_ <;> (intro hc; (try simp only [zhcs, reduceCtorEq] at hc); (try (exfalso; first | contradiction | omega | exact absurd rfl hc | exact absurd (by decide) hc))))))
  all_goals ((with_reducible apply At.retB1 (B := bx b p l.length c)); exact rfl; exact rfl; exact zml; exact zkp; exact ⟨rfl, rfl, rfl⟩)
theorem indexM {m : Mem} (b : Nat) (p : Option Addr) (c : Nat) (l : List Lab) (q : Option Addr) (d : Nat) (ms : List Mat) (hl : l.length ≤ 1000000000) (hm : ms.length ≤ 1000000000) (sl0 : Sl m Lb.cells 2 p c l) (sl1 : Sl m cells 3 q d ms) :
    Ct Try.prog 48 #[.slice q ms.length d, .func (.func 27) #[] #[pt b]] m (bx b p l.length c) (fun v m' B => m = m' ∧ B = bx b p l.length c ∧
      ∃ k : Int, v = .int .i64 k ∧ (0 ≤ k ↔ ¬ ∀ i, i < ms.length → hit ms[i]! l = true)) := by
  refine Ct.enterV (by rfl) Try.func48 rfl Try.ntmps48 rfl (fun w0 Rest => ?_)
  (repeat' (first | refine zss ?_ | refine zsM ?_ | (refine zsp ?_ ?_ <;> (intro hc; (try simp only [zhcs, reduceCtorEq] at hc); (try (exfalso; first | contradiction | omega | exact absurd rfl hc | exact absurd (by decide) hc))))))
  (refine At.loopk (σ := Nat) [0, 1, 7] (fun s F0 => (8, .int .i64 (s : Int)) :: F0) (fun s => m) (fun s => .blk b 22 [.slice p l.length c] :: Rest) (fun s => s ≤ ms.length ∧ ∀ i, i < s → hit ms[i]! l = true) (fun s => ms.length - s) 0 (by rfl) ?_ zsubs zml zente ?_)
  · exact ⟨Nat.zero_le _, fun i h => absurd h (Nat.not_lt_zero i)⟩
  rintro j ⟨hs, hn⟩
  by_cases h : j < ms.length
  · cases e : hit ms[j]! l with
    | false =>
      have hcl := all1 (m := m) b (ms[j]!) p c l false hl sl0 e
      rw [Bool.not_false] at hcl
      (repeat' (first | refine zss ?_ | refine zsM ?_ | ((with_reducible apply At.callf); exact rfl; kernel_rfl; exact rfl; exact rfl; exact hcl; exact ztk; rintro v' m' B' hm' ⟨rfl, rfl, rfl⟩; (try replace sl0 := sl0.mono hm'); (try replace sl1 := sl1.mono hm')) | (refine zsp ?_ ?_ <;> (intro hc; (try simp only [zhcs, reduceCtorEq] at hc); (try (exfalso; first | omega | contradiction | omega | exact absurd rfl hc | exact absurd (by decide) hc))))))
      all_goals ((with_reducible apply At.retB1 (B := bx b p l.length c)); exact rfl; exact rfl; exact zml; exact zkp; exact ⟨rfl, rfl, _, rfl, ⟨fun _ hh => absurd ((hh j h).symm.trans e) (by decide), fun _ => by omega⟩⟩)
    | true =>
      have hcl := all1 (m := m) b (ms[j]!) p c l true hl sl0 e
      rw [Bool.not_true] at hcl
      have hnn : ∀ i, i < j + 1 → hit ms[i]! l = true := fun i hi => by
        by_cases e1 : i = j
        · subst e1; exact e
        · exact hn i (by omega)
      (repeat' (first | refine zss ?_ | refine zsM ?_ | ((with_reducible apply At.callf); exact rfl; kernel_rfl; exact rfl; exact rfl; exact hcl; exact ztk; rintro v' m' B' hm' ⟨rfl, rfl, rfl⟩; (try replace sl0 := sl0.mono hm'); (try replace sl1 := sl1.mono hm')) | (refine zsp ?_ ?_ <;> (intro hc; (try simp only [zhcs, reduceCtorEq] at hc); (try (exfalso; first | omega | contradiction | omega | exact absurd rfl hc | exact absurd (by decide) hc))))))
      all_goals ((with_reducible refine At.reachk ((j + 1)) ?_ ?_ ?_ ?_); exact zsubs; exact zml; exact zente; exact ⟨⟨h, hnn⟩, by omega⟩)
  · (repeat' (first | refine zss ?_ | refine zsM ?_ | (refine zsp ?_ ?_ <;> (intro hc; (try simp only [zhcs, reduceCtorEq] at hc); (try (exfalso; first | omega | contradiction | omega | exact absurd rfl hc | exact absurd (by decide) hc))))))
    all_goals ((with_reducible apply At.retB1 (B := bx b p l.length c)); exact rfl; exact rfl; exact zml; exact zkp; exact ⟨rfl, rfl, _, rfl, ⟨fun hh => absurd hh (by decide), fun hh => absurd (fun i hi => hn i (by omega)) hh⟩⟩)
theorem containsM {m : Mem} (b : Nat) (p : Option Addr) (c : Nat) (l : List Lab) (q : Option Addr) (d : Nat) (ms : List Mat) (hl : l.length ≤ 1000000000) (hm : ms.length ≤ 1000000000) (sl0 : Sl m Lb.cells 2 p c l) (sl1 : Sl m cells 3 q d ms) :
    Ct Try.prog 24 #[.slice q ms.length d, .func (.func 27) #[] #[pt b]] m (bx b p l.length c) (fun v m' B => v = .bool (!all ms l) ∧ m = m' ∧ B = bx b p l.length c) := by
  have hi := indexM (m := m) b p c l q d ms hl hm sl0 sl1
  refine Ct.enterV (by rfl) Try.func24 rfl Try.ntmps24 rfl (fun w0 Rest => ?_)
  (repeat' (first | refine zss ?_ | refine zsM ?_ | ((with_reducible first | apply At.c1 | apply At.c0); exact rfl; exact rfl; exact hi; exact ztk; kernel_rfl; rintro v' m' B' hm' ⟨rfl, rfl, k, rfl, hk⟩; (try replace sl0 := sl0.mono hm'); (try replace sl1 := sl1.mono hm'); (try (have hq0 : hm' = Mem.le_refl _ := rfl; clear hq0 hm'))) | (refine zsp ?_ ?_ <;> (intro hc; (try simp only [zhcs, reduceCtorEq] at hc); (try (exfalso; first | contradiction | omega | exact absurd rfl hc | exact absurd (by decide) hc))))))
  all_goals ((with_reducible apply At.retB1 (B := bx b p l.length c)); exact rfl; exact rfl; exact zml; exact zkp; exact ⟨congrArg Value.bool (by unfold all; rw [← decide_not, decide_eq_decide]; exact hk), rfl, rfl⟩)
theorem allM {m : Mem} (p : Option Addr) (c : Nat) (l : List Lab) (q : Option Addr) (d : Nat) (ms : List Mat) (hl : l.length ≤ 1000000000) (hm : ms.length ≤ 1000000000) (sl0 : Sl m Lb.cells 2 p c l) (sl1 : Sl m cells 3 q d ms) :
    Rd Try.prog 13 #[.slice q ms.length d, .slice p l.length c] m [] (.bool (all ms l)) := by
  unfold Rd
  refine Ct.enterV (by rfl) Try.func13 rfl Try.ntmps13 rfl (fun w0 Rest => ?_)
  (repeat' (first | refine zss ?_ | refine zsM ?_ | ((with_reducible first | apply At.c1 | apply At.c0); exact rfl; exact rfl; exact containsM _ p c l q d ms hl hm sl0 sl1; exact ztk; kernel_rfl; rintro v' m' B' hm' ⟨rfl, rfl, rfl⟩; (try replace sl0 := sl0.mono hm'); (try replace sl1 := sl1.mono hm'); (try (have hq0 : hm' = Mem.le_refl _ := rfl; clear hq0 hm'))) | ((with_reducible apply At.box (d := 3)); exact rfl; exact rfl; exact rfl; intro b3) | (refine zsp ?_ ?_ <;> (intro hc; (try simp only [zhcs, reduceCtorEq] at hc); (try (exfalso; first | contradiction | omega | exact absurd rfl hc | exact absurd (by decide) hc))))))
  all_goals ((with_reducible apply At.retB1 (B := [])); exact rfl; exact rfl; exact zml; exact zkp; exact ⟨congrArg Value.bool (Bool.not_not _), rfl, rfl⟩)
end Mt
end Go.Proofs.Ytjncahmbllmllaa
