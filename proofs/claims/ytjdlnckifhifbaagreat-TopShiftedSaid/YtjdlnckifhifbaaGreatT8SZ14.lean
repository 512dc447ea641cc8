/- Part 14 of what the law's proof needs: rules of the walk, contracts of functions, plain laws. No condition. -/
import Derived.Test.YtjdlnckifhifbaaGreatT8SZ13
import Derived.ProofKit
import Derived.OpenShut
import Derived.Below
import Derived.Carry
import Derived.Deep.Slices
import Derived.WideShapes
/- The contracts of free places, the program's and the document's. -/
set_option linter.unusedSimpArgs false
set_option linter.unusedVariables false
set_option linter.unusedSectionVars false
set_option maxRecDepth 20000
set_option maxHeartbeats 4000000
namespace Go.Proofs.YtjdlnckifhifbaaGreat
open Go Go.J
attribute [local irreducible] At AtQ AtM AtM1 PR Ct Pu Rd Res.blk Res.own Res.ex Res.ch RVs RV
namespace Fr
abbrev ptr (b : Nat) : Value := .pointer (some ⟨b, 0, none⟩)
abbrev ci (x : Nat) : Value := .int .i64 (x : Int)
/-- which of so many are free -/
def tab (n : Nat) (buf : List Nat) : List Bool := (List.range n).map fun i => decide (i ∈ buf)
theorem tab_len (n : Nat) (buf : List Nat) : (tab n buf).length = n := by simp [tab]
theorem tab_get {n : Nat} {buf : List Nat} {i : Nat} (h : i < n) : (tab n buf)[i]! = decide (i ∈ buf) := by
  rw [getElem!_pos (tab n buf) i (by rw [tab_len]; exact h)]; simp [tab]
theorem tab_set {n : Nat} {buf buf' : List Nat} {i : Nat} {v : Bool} (hi : i < n) (hv : v = decide (i ∈ buf')) (h : ∀ j, j ≠ i → (j ∈ buf' ↔ j ∈ buf)) : (tab n buf).set i v = tab n buf' := by
  apply Ls.ext! (by rw [List.length_set, tab_len, tab_len])
  intro j hj
  rw [List.length_set, tab_len] at hj
  rw [tab_get hj]
  by_cases e : i = j
  · subst e
    rw [getElem!_pos _ i (by rw [List.length_set, tab_len]; exact hj), List.getElem_set_self, hv]
  · rw [getElem!_pos _ j (by rw [List.length_set, tab_len]; exact hj), List.getElem_set_ne e, ← getElem!_pos (tab n buf) j (by rw [tab_len]; exact hj), tab_get hj]
    have := h j (fun x => e x.symm)
    by_cases k : j ∈ buf
    · rw [decide_eq_true k, decide_eq_true (this.2 k)]
    · rw [decide_eq_false k, decide_eq_false fun x => k (this.1 x)]
/-- right free places: each once -/
def good (n : Nat) (buf : List Nat) : Prop := buf.Nodup ∧ ∀ x ∈ buf, x < n
theorem good.len : ∀ {n : Nat} {buf : List Nat}, good n buf → buf.length ≤ n
  | 0, buf, h => by
    cases buf with
    | nil => exact Nat.le_refl _
    | cons x b => exact absurd (h.2 x (List.mem_cons_self ..)) (Nat.not_lt_zero _)
  | n + 1, buf, h => by
    by_cases hm : n ∈ buf
    · have := good.len (n := n) (buf := buf.erase n) ⟨h.1.erase n, fun x hx => by
        have h1 := h.2 x (List.mem_of_mem_erase hx)
        have h2 : x ≠ n := fun e => by subst e; exact (List.Nodup.mem_erase_iff h.1).1 hx |>.1 rfl
        omega⟩
      rw [List.length_erase_of_mem hm] at this
      omega
    · have := good.len (n := n) (buf := buf) ⟨h.1, fun x hx => by
        have h1 := h.2 x hx
        have h2 : x ≠ n := fun e => by subst e; exact hm hx
        omega⟩
      omega
theorem good.room {n : Nat} {buf : List Nat} {p : Nat} (h : good n buf) (hp : p < n) (hn : p ∉ buf) : buf.length < n ∧ good n (buf ++ [p]) := by
  have hg : good n (buf ++ [p]) := ⟨by
    rw [List.nodup_append]
    exact ⟨h.1, by simp, fun a ha b hb e => by rw [List.mem_singleton] at hb; subst hb e; exact hn ha⟩, fun x hx => by
    rcases List.mem_append.1 hx with hx | hx
    · exact h.2 x hx
    · rw [List.mem_singleton] at hx; rw [hx]; exact hp⟩
  have := hg.len
  rw [List.length_append] at this
  exact ⟨this, hg⟩
theorem good.tail {n : Nat} {x : Nat} {buf : List Nat} (h : good n (x :: buf)) : x < n ∧ x ∉ buf ∧ good n buf :=
  ⟨h.2 x (List.mem_cons_self ..), (List.nodup_cons.1 h.1).1, (List.nodup_cons.1 h.1).2, fun y hy => h.2 y (List.mem_cons_of_mem _ hy)⟩
abbrev rr (b n : Nat) (cb : Nat) (p : Option Addr) (c : Nat) (buf : List Nat) : List Res := [.blk b 88 [.chan (some cb), .slice p n c], .ch cb n (buf.map ci), .own Ls.fO 1 4 p c (tab n buf)]
structure FS where
  (cb : Nat) (p : Option Addr) (c : Nat)
/-- free places of so many, by which are free, in order -/
def R (b n : Nat) (buf : List Nat) : Res := .ex (fun _ : FS => True) (fun s => rr b n s.cb s.p s.c buf)
theorem R.openR {m : Mem} {f : FuncId} {args : Array Value} {b n : Nat} {buf : List Nat} {V : Value} (h : ∀ s : FS, Rd Tryz.prog f args m (rr b n s.cb s.p s.c buf) V) : Rd Tryz.prog f args m [R b n buf] V :=
  Rd.openx fun s _ => by rw [List.append_nil]; exact h s
theorem R.open {m : Mem} {f : FuncId} {args : Array Value} {b n : Nat} {buf : List Nat} {Q : Value → Mem → List Res → Prop} (h : ∀ s : FS, Ct Tryz.prog f args m (rr b n s.cb s.p s.c buf) Q) : Ct Tryz.prog f args m [R b n buf] Q :=
  Ct.openx fun s _ => by rw [List.append_nil]; exact h s
theorem R.close {b n : Nat} {buf : List Nat} (cb : Nat) (p : Option Addr) (c : Nat) (Rest : List Res) : Ent (rr b n cb p c buf ++ Rest) (R b n buf :: Rest) := Ent.closex (A := fun s : FS => rr b n s.cb s.p s.c buf) ⟨cb, p, c⟩ trivial
theorem len0 {m : Mem} (b n cb : Nat) (p : Option Addr) (c : Nat) (buf : List Nat) : Rd Tryz.prog 19 #[ptr b] m (rr b n cb p c buf) (.int .i64 (buf.length : Int)) := by
  unfold Rd
  refine Ct.enterV (by rfl) Tryz.func19 rfl Tryz.ntmps19 rfl (fun w0 Rest => ?_)
  (repeat' (first | refine zss ?_ | ((first | (with_reducible first | apply At.val | apply AtQ.val)); (exact pr_len_ch (by rfl) (by rfl) (by repeat constructor)); exact rfl) | refine zsO ?_ | (refine zsp ?_ ?_ <;> (intro hc; (try simp only [zhcs, reduceCtorEq] at hc); (try (exfalso; first | contradiction | omega | exact absurd rfl hc | exact absurd (by decide) hc))))))
  all_goals ((with_reducible apply At.retB1 (B := rr b n cb p c buf)); exact rfl; exact rfl; exact zml; exact zkp; exact ⟨by rw [List.length_map], rfl, rfl⟩)
theorem len {m : Mem} (b n : Nat) (buf : List Nat) : Rd Tryz.prog 19 #[ptr b] m [R b n buf] (.int .i64 (buf.length : Int)) := R.openR fun s => len0 b n s.cb s.p s.c buf
theorem take0 {m : Mem} (b n cb : Nat) (p : Option Addr) (c : Nat) (buf : List Nat) (hg : good n buf) (hn : n ≤ 65536) :
    Ct Tryz.prog 16 #[ptr b] m (rr b n cb p c buf) (fun v m' B => v = .tuple #[.int .i64 ((buf.headD 0 : Nat) : Int), .bool (!buf.isEmpty)] ∧ m = m' ∧ B = rr b n cb p c buf.tail) := by
  cases buf with
  | nil =>
    refine Ct.enterV (by rfl) Tryz.func16 rfl Tryz.ntmps16 rfl (fun w0 Rest => ?_)
    (repeat' (first | ((with_reducible apply At.selRecv0 (z := .int .i64 0)); exact rfl; exact rfl; exact rfl; exact rfl; exact (by repeat constructor)) | refine zss ?_ | refine zsO ?_ | (refine zsp ?_ ?_ <;> (intro hc; (try simp only [zhcs, reduceCtorEq] at hc); (try (exfalso; first | contradiction | omega | exact absurd rfl hc | exact absurd (by decide) hc))))))
    all_goals ((with_reducible apply At.retB2 (B := rr b n cb p c [])); (iterate 3 exact rfl); exact zml; exact zkp; exact ⟨rfl, rfl, rfl⟩)
  | cons x buf =>
    obtain ⟨h1, h2, h3⟩ := hg.tail
    have hl := tab_len n (x :: buf)
    have hset : (tab n (x :: buf)).set x false = tab n buf := tab_set h1 (by rw [decide_eq_false h2]) (fun j hj => by rw [List.mem_cons]; exact ⟨.inr, fun e => e.resolve_left hj⟩)
    refine Ct.enterV (by rfl) Tryz.func16 rfl Tryz.ntmps16 rfl (fun w0 Rest => ?_)
    (repeat' (first | ((with_reducible apply At.selRecv1 (z := .int .i64 0) (v := ci x) (buf := buf.map ci)); exact rfl; exact rfl; exact rfl; exact rfl; exact (by repeat constructor)) | refine zss ?_ | refine zsO ?_ | ((with_reducible apply At.storeW (f := Ls.fO) (x' := false)); (case hx => exact rfl); (case hy => exact rfl); (case hv => exact rfl); (case hp => exact (by repeat constructor)); (case hr => exact rfl); (case hf => exact inferInstance); (case hk => exact zom); (case hs => exact rfl); (case hq => exact rfl); (case h1 => exact rfl)) | (refine zsp ?_ ?_ <;> (intro hc; (try simp only [zhcs, reduceCtorEq] at hc); (try (exfalso; first | contradiction | omega | exact absurd rfl hc | exact absurd (by decide) hc))))))
    all_goals ((with_reducible apply At.retV (B := [.blk b 88 [.chan (some cb), .slice p n c], .ch cb n (buf.map ci), .own Ls.fO 1 4 p c ((tab n (x :: buf)).set x false)])); exact rfl; (repeat' (first | exact RVs.nil | (with_reducible apply RVs.cons) | exact rv_tmp (by rfl) | exact rv_cellN (by rfl) (by repeat constructor) (by rfl) (by rfl) (by rfl) | exact rv_cell1 (by rfl) (by repeat constructor) (by rfl) (by rfl))); exact zml; exact zkp; exact ⟨rfl, rfl, by rw [hset]; rfl⟩)
theorem take {m : Mem} (b n : Nat) (buf : List Nat) (hg : good n buf) (hn : n ≤ 65536) :
    Ct Tryz.prog 16 #[ptr b] m [R b n buf] (fun v m' B => v = .tuple #[.int .i64 ((buf.headD 0 : Nat) : Int), .bool (!buf.isEmpty)] ∧ m = m' ∧ B = [R b n buf.tail]) :=
  R.open fun s => Ct.conv (take0 b n s.cb s.p s.c buf hg hn) fun v m' B _ ⟨h1, h2, h3⟩ => ⟨_, ⟨h1, h2, rfl⟩, fun Rest => by subst h3; exact R.close s.cb s.p s.c Rest⟩
/-- what may be given back -/
def may (n : Nat) (buf : List Nat) (q : Int) : Bool := decide (0 ≤ q ∧ q < n ∧ q.toNat ∉ buf)
def giv (n : Nat) (buf : List Nat) (q : Int) : List Nat := if may n buf q then buf ++ [q.toNat] else buf
theorem good.giv {n : Nat} {buf : List Nat} (h : good n buf) (q : Int) : good n (giv n buf q) := by
  unfold Fr.giv
  split
  · rename_i hm
    have := of_decide_eq_true hm
    exact (h.room (by omega) this.2.2).2
  · exact h
set_option maxHeartbeats 1000000 in
theorem give0 {m : Mem} (b n cb : Nat) (p : Option Addr) (c : Nat) (buf : List Nat) (q : Int) (hg : good n buf) (hn : n ≤ 65536) :
    Ct Tryz.prog 15 #[ptr b, .int .i64 q] m (rr b n cb p c buf) (fun v m' B => v = .bool (may n buf q) ∧ m = m' ∧ B = rr b n cb p c (giv n buf q)) := by
  have hl := tab_len n buf
  by_cases h1 : 0 ≤ q ∧ q < n
  · obtain ⟨k, rfl⟩ : ∃ k : Nat, q = k := ⟨q.toNat, by omega⟩
    have hk : k < n := by omega
    by_cases h2 : k ∈ buf
    · rw [show giv n buf (k : Int) = buf from if_neg (by unfold may; simp [h2]), show may n buf (k : Int) = false by unfold may; simp [h2]]
      have ht : (tab n buf)[k]! = true := by rw [tab_get hk, decide_eq_true h2]
      refine Ct.enterV (by rfl) Tryz.func15 rfl Tryz.ntmps15 rfl (fun w0 Rest => ?_)
      (repeat' (first | refine zss ?_ | refine zsO ?_ | (refine zsp ?_ ?_ <;> (intro hc; (try simp only [zhcs, reduceCtorEq] at hc); (try (exfalso; first | (first | omega | exact absurd (hc.symm.trans ht) (by decide)) | contradiction | omega | exact absurd rfl hc | exact absurd (by decide) hc))))))
      all_goals ((with_reducible apply At.retB1 (B := rr b n cb p c buf)); exact rfl; exact rfl; exact zml; exact zkp; exact ⟨rfl, rfl, rfl⟩)
    · rw [show giv n buf (k : Int) = buf ++ [k] from if_pos (by unfold may; simp [h2, hk]), show may n buf (k : Int) = true by unfold may; simp [h2, hk]]
      have ht : (tab n buf)[k]! = false := by rw [tab_get hk, decide_eq_false h2]
      have hr := (hg.room hk h2).1
      have hmp : (buf ++ [k]).map ci = buf.map ci ++ [ci k] := by simp
      have hset : (tab n buf).set k true = tab n (buf ++ [k]) := tab_set hk (by simp) (fun j hj => by simp [hj])
      refine Ct.enterV (by rfl) Tryz.func15 rfl Tryz.ntmps15 rfl (fun w0 Rest => ?_)
      (repeat' (first | ((with_reducible apply At.selSend (z := .int .i64 0) (v := ci k) (buf := buf.map ci)); exact rfl; exact rfl; exact rfl; exact rfl; exact rfl; exact (by repeat constructor); (rw [List.length_map]; omega)) | refine zss ?_ | refine zsO ?_ | ((with_reducible apply At.storeW (f := Ls.fO) (x' := true)); (case hx => exact rfl); (case hy => exact rfl); (case hv => exact rfl); (case hp => exact (by repeat constructor)); (case hr => exact rfl); (case hf => exact inferInstance); (case hk => exact zom); (case hs => exact rfl); (case hq => exact rfl); (case h1 => exact rfl)) | (refine zsp ?_ ?_ <;> (intro hc; (try simp only [zhcs, reduceCtorEq] at hc); (try (exfalso; first | (first | omega | exact absurd (hc.symm.trans ht) (by decide)) | contradiction | omega | exact absurd rfl hc | exact absurd (by decide) hc))))))
      all_goals ((with_reducible apply At.retB1 (B := [.blk b 88 [.chan (some cb), .slice p n c], .ch cb n (buf.map ci ++ [ci k]), .own Ls.fO 1 4 p c ((tab n buf).set k true)])); exact rfl; exact rfl; exact zml; exact zkp; exact ⟨rfl, rfl, by rw [hset, ← hmp]⟩)
  · rw [show giv n buf q = buf from if_neg (by unfold may; simp; omega), show may n buf q = false by unfold may; simp; omega]
    refine Ct.enterV (by rfl) Tryz.func15 rfl Tryz.ntmps15 rfl (fun w0 Rest => ?_)
    (repeat' (first | refine zss ?_ | refine zsO ?_ | (refine zsp ?_ ?_ <;> (intro hc; (try simp only [zhcs, reduceCtorEq] at hc); (try (exfalso; first | omega | contradiction | omega | exact absurd rfl hc | exact absurd (by decide) hc))))))
    all_goals ((with_reducible apply At.retB1 (B := rr b n cb p c buf)); exact rfl; exact rfl; exact zml; exact zkp; exact ⟨rfl, rfl, rfl⟩)
theorem give {m : Mem} (b n : Nat) (buf : List Nat) (q : Int) (hg : good n buf) (hn : n ≤ 65536) :
    Ct Tryz.prog 15 #[ptr b, .int .i64 q] m [R b n buf] (fun v m' B => v = .bool (may n buf q) ∧ m = m' ∧ B = [R b n (giv n buf q)]) :=
  R.open fun s => Ct.conv (give0 b n s.cb s.p s.c buf q hg hn) fun v m' B _ ⟨h1, h2, h3⟩ => ⟨_, ⟨h1, h2, rfl⟩, fun Rest => by subst h3; exact R.close s.cb s.p s.c Rest⟩
theorem good_range {n k : Nat} (h : k ≤ n) : good n (List.range k) := ⟨List.nodup_range, fun x hx => by have := List.mem_range.1 hx; omega⟩
theorem tab_nil (n : Nat) : List.replicate n false = tab n [] := by
  apply Ls.ext! (by rw [List.length_replicate, tab_len])
  intro i hi
  rw [List.length_replicate] at hi
  rw [tab_get hi, getElem!_pos _ i (by rw [List.length_replicate]; exact hi)]
  simp
theorem newBad {m : Mem} (q : Int) (h : q < 1 ∨ 65536 < q) : Ct Tryz.prog 11 #[.int .i64 q] m [] (fun v m' B => v = .tuple #[.pointer none, .int .i64 1] ∧ m = m' ∧ B = []) := by
  refine Ct.enterV (by rfl) Tryz.func11 rfl Tryz.ntmps11 rfl (fun w0 Rest => ?_)
  (repeat' (first | refine zss ?_ | refine zsO ?_ | ((with_reducible apply At.box (d := 17)); exact rfl; exact rfl; exact rfl; intro b17) | (refine zsp ?_ ?_ <;> (intro hc; (try simp only [zhcs, reduceCtorEq] at hc); (try (exfalso; first | omega | contradiction | omega | exact absurd rfl hc | exact absurd (by decide) hc))))))
  all_goals ((with_reducible apply At.retB2 (B := [])); (iterate 3 exact rfl); exact zml; exact zkp; exact ⟨rfl, rfl, rfl⟩)
theorem new {m : Mem} (n : Nat) (h1 : 1 ≤ n) (hn : n ≤ 65536) : Ct Tryz.prog 11 #[.int .i64 (n : Int)] m [] (fun v m' B => m = m' ∧ ∃ b, v = .tuple #[ptr b, .int .i64 0] ∧ B = [R b n (List.range n)]) := by
  have hgv := fun (m : Mem) b (k : Nat) (h : k < n) => give (m := m) b n (List.range k) (k : Int) (good_range (by omega)) hn
  have hgv2 : ∀ (m : Mem) b (k : Nat) (h : k < n), Ct Tryz.prog 15 #[ptr b, .int .i64 (k : Int)] m [R b n (List.range k)] (fun v m' B => v = .bool true ∧ m = m' ∧ B = [R b n (List.range (k + 1))]) := fun m b k h => by
    have e1 : may n (List.range k) (k : Int) = true := by unfold may; simp [h]
    have := hgv m b k h
    rw [e1, show giv n (List.range k) (k : Int) = List.range (k + 1) by unfold giv; rw [if_pos e1, List.range_succ]; rfl] at this
    exact this
  refine Ct.enterV (by rfl) Tryz.func11 rfl Tryz.ntmps11 rfl (fun w0 Rest => ?_)
  (repeat' (first | ((with_reducible apply At.mixed (id := 3) 7 (.q 0 (.q 2 (.b 1 3 (.l 3 (.q 4 (.x 5 (.q 6 .done)))) (.l 1 (.q 4 (.x 5 (.q 6 .done)))))))); exact rfl; kernel_rfl; kernel_rfl; kernel_rfl) | refine zsx ?_ | refine zss ?_ | ((with_reducible apply AtM.bo); exact rfl; exact rfl; exact rfl) | refine zsO ?_ | refine zxO ?_ | ((with_reducible apply At.makeChan (k := n)); exact rfl; exact rfl; omega; exact rfl; intro cb) | ((with_reducible apply At.makeN (f := Ls.fO) (false)); exact inferInstance; (iterate 5 exact rfl); exact zlq; exact rfl; exact zom; exact rfl; intro b8) | ((with_reducible apply At.box (d := 17)); exact rfl; exact rfl; exact rfl; intro b17) | (refine zsp ?_ ?_ <;> (intro hc; (try simp only [zhcs, reduceCtorEq] at hc); (try (exfalso; first | omega | contradiction | omega | exact absurd rfl hc | exact absurd (by decide) hc))))))
  all_goals rw [tab_nil n]
  all_goals refine At.ent ((Take.eqv (A := rr b17 n cb (some ⟨b8, 0, none⟩) n []) (Y := Rest) (by exact ztk)).ent.trans (R.close (n := n) (buf := []) cb _ _ Rest)) ?_
  all_goals
    (refine At.loopk (σ := Nat) [4, 18] (fun s F0 => (19, .int .i64 (s : Int)) :: F0) (fun s => m) (fun s => R b17 n (List.range s) :: Rest) (fun s => s ≤ n) (fun s => n - s) 0 (by rfl) ?_ zsubs zml zente ?_)
    · exact Nat.zero_le _
    rintro s hs
    by_cases h : s < n
    · (repeat' (first | refine zss ?_ | refine zsO ?_ | ((with_reducible first | apply At.c1 | apply At.c0); exact rfl; exact rfl; exact hgv2 _ b17 s h; exact ztk; kernel_rfl; rintro v' m' B' hm' ⟨rfl, rfl, rfl⟩; skip; (try (have hq0 : hm' = Mem.le_refl _ := rfl; clear hq0 hm'))) | ((with_reducible apply At.box (d := 17)); exact rfl; exact rfl; exact rfl; intro b17) | (refine zsp ?_ ?_ <;> (intro hc; (try simp only [zhcs, reduceCtorEq] at hc); (try (exfalso; first | omega | contradiction | omega | exact absurd rfl hc | exact absurd (by decide) hc))))))
      all_goals ((with_reducible refine At.reachk ((s + 1)) ?_ ?_ ?_ ?_); exact zsubs; exact zml; exact zente; exact ⟨h, by omega⟩)
    · obtain rfl : s = n := by omega
      (repeat' (first | refine zss ?_ | refine zsO ?_ | ((with_reducible apply At.box (d := 17)); exact rfl; exact rfl; exact rfl; intro b17) | (refine zsp ?_ ?_ <;> (intro hc; (try simp only [zhcs, reduceCtorEq] at hc); (try (exfalso; first | omega | contradiction | omega | exact absurd rfl hc | exact absurd (by decide) hc))))))
      all_goals ((with_reducible apply At.retB2 (B := [R b17 s (List.range s)])); (iterate 3 exact rfl); exact zml; exact zkp; exact ⟨rfl, _, rfl, rfl⟩)
/-! ### the document's -/
abbrev fcs (n : Nat) (p : Option Addr) (k c : Nat) : List Value := [.int .i64 (n : Int), .slice p k c]
abbrev fv (n : Int) (p : Option Addr) (k c : Nat) : Value := .agg #[.int .i64 n, .slice p k c]
abbrev ints (buf : List Nat) : List Int := buf.map fun (x : Nat) => (x : Int)
abbrev owI (p : Option Addr) (c : Nat) (l : List Int) : Res := .own Ls.fI 1 3 p c l
def PostF (n : Nat) (buf : List Nat) (k : Value → Value) : Value → Mem → List Res → Prop := fun v m' B => B = [] ∧ ∃ p c, v = k (fv n p buf.length c) ∧ Sl m' Ls.fI 1 p c (ints buf)
structure NF where
  (j : Nat) (p : Option Addr) (c : Nat)
end Fr
end Go.Proofs.YtjdlnckifhifbaaGreat
/- The laws of series: what they ask first; events put to a new series. -/
set_option linter.unusedSimpArgs false
set_option linter.unusedVariables false
set_option linter.unusedSectionVars false
set_option maxRecDepth 20000
set_option maxHeartbeats 4000000
namespace Go.Proofs.YtjdlnckifhifbaaGreat
open Go Go.J
attribute [local irreducible] At AtQ AtM AtM1 PR Ct Pu Rd Res.blk Res.own Res.ex RVs RV
namespace T8
open Slot Ti Gr Se Sv
open Fo hiding pt
abbrev la : List Lab := [⟨[97], []⟩]
theorem la_right : Lb.right la := by decide
theorem la_few : Lb.few la := by
  refine ⟨by decide, fun i hi => ?_⟩
  have : i = 0 := by simp at hi; omega
  subst this
  exact ⟨by decide, by decide⟩
theorem la_mid : Lb.Mid la := la_few.mid
structure PS where
  (k : Nat) (m : Mem) (x : Ser)
theorem put8 {m : Mem} (K : Cfg) (p : Option Addr) (c : Nat) (l : List Ev) (hK : K.ok) (hG : Gr.Good l) (hl : l.length ≤ 1000000) (sl0 : Sl m Ev.cells 4 p c l) :
    Ct Tryz.prog 8 #[K.v, .slice p l.length c] m [] (fun v m' B => B = [] ∧ ∃ x : Ser, v = .tuple #[x.v, .bool true] ∧ x.Ok m' ∧ SI K l x ∧ x.lab.l = la) := by
  have k0 := fun (m : Mem) p c sl => new_ (m := m) K p c la hK la_right la_mid sl
  refine Ct.enterV (by rfl) Tryz.func8 rfl Tryz.ntmps8 rfl (fun w0 Rest => ?_)
  (repeat' (first | refine zss ?_ | refine zsM ?_ | ((with_reducible apply At.litF Lb.cells la); exact inferInstance; (iterate 7 exact rfl); intro b' m' hm' sl2; (try replace sl0 := sl0.mono hm')) | ((with_reducible first | apply At.c1 | apply At.c0); exact rfl; exact rfl; exact k0 _ _ _ sl2; exact ztk; kernel_rfl; rintro v' m' B' hm' ⟨rfl, x0, rfl, hx, hI, hlab⟩; (try replace sl0 := sl0.mono hm'); (try replace sl2 := sl2.mono hm'); (try (have hq0 : hm' = Mem.le_refl _ := rfl; clear hq0 hm'))) | ((with_reducible apply At.box (d := 2)); exact rfl; exact rfl; exact rfl; intro b2) | ((with_reducible apply At.alloc (d := 4)); exact rfl; exact rfl; intro b4) | ((with_reducible apply At.alloc (d := 6)); exact rfl; exact rfl; intro b6) | ((with_reducible apply At.alloc (d := 9)); exact rfl; exact rfl; intro b9) | ((with_reducible apply At.alloc (d := 10)); exact rfl; exact rfl; intro b10) | (refine zsp ?_ ?_ <;> (intro hc; (try simp only [zhcs, reduceCtorEq] at hc); (try (exfalso; first | omega | contradiction | omega | exact absurd rfl hc | exact absurd (by decide) hc))))))
  rw [show ([] : List Ev) = l.take 0 from rfl] at hI
  change At _ w0 _ m' (Res.blk b6 44 x0.cells :: Res.blk b4 44 (Ser.cells Ser.z) :: Res.blk b2 25 K.cells :: Rest) _
  (refine At.loopk (σ := PS) [2, 4, 6, 22, 23] (fun s F0 => (24, .int .i64 (s.k : Int)) :: F0) (fun s => s.m) (fun s => .blk b6 44 s.x.cells :: .blk b4 44 (Ser.cells Ser.z) :: .blk b2 25 K.cells :: Rest) (fun s => m'.le s.m ∧ s.k ≤ l.length ∧ s.x.Ok s.m ∧ SI K (l.take s.k) s.x ∧ s.x.lab.l = la) (fun s => l.length - s.k) ⟨0, m', x0⟩ (by rfl) ?_ zsubs zml zente ?_)
  · exact ⟨Mem.le_refl _, Nat.zero_le _, hx, hI, hlab⟩
  clear hx hI hlab k0
  rintro ⟨k, m1, x⟩ ⟨hm1, hk, hx, hI, hlab⟩
  dsimp only at hm1 hk hx hI hlab ⊢
  replace sl0 := sl0.mono hm1
  by_cases hkl : k < l.length
  rotate_left
  · rw [List.take_of_length_le (by omega)] at hI
    (repeat' (first | refine zss ?_ | refine zsM ?_ | ((with_reducible apply At.box (d := 2)); exact rfl; exact rfl; exact rfl; intro b2) | ((with_reducible apply At.alloc (d := 4)); exact rfl; exact rfl; intro b4) | ((with_reducible apply At.alloc (d := 6)); exact rfl; exact rfl; intro b6) | ((with_reducible apply At.alloc (d := 9)); exact rfl; exact rfl; intro b9) | ((with_reducible apply At.alloc (d := 10)); exact rfl; exact rfl; intro b10) | (refine zsp ?_ ?_ <;> (intro hc; (try simp only [zhcs, reduceCtorEq] at hc); (try (exfalso; first | omega | contradiction | omega | exact absurd rfl hc | exact absurd (by decide) hc))))))
    all_goals ((with_reducible apply At.retV (B := [])); exact rfl; (repeat' (first | exact RVs.nil | (with_reducible apply RVs.cons) | exact rv_tmp (by rfl) | exact rv_cellN (by rfl) (by repeat constructor) (by rfl) (by rfl) (by rfl) | exact rv_cell1 (by rfl) (by repeat constructor) (by rfl) (by rfl))); exact zml; exact zkp; exact ⟨rfl, x, rfl, hx.mono zml, hI, hlab⟩)
  have hsn := Ls.take_snoc hkl
  have hGe : Gr.Good (l.take k ++ [l[k]!]) := by rw [← hsn]; exact hG.sub (List.take_sublist _ _)
  have k1 := fun (m' : Mem) (h : m1.le m') => put_ (m := m') K x (l.take k) l[k]! hI (hx.mono h) hGe (by rw [List.length_take]; omega)
  rw [← hsn] at k1
  clear hGe hsn hI hx hK hG
  (repeat' (first | refine zss ?_ | refine zsM ?_ | ((with_reducible first | apply At.c1 | apply At.c0); exact rfl; exact rfl; exact k1 _ zml; exact ztk; kernel_rfl; rintro v' m' B' hm' ⟨rfl, y, rfl, hy, hyI, hyl⟩; (try replace sl0 := sl0.mono hm'); (try replace sl2 := sl2.mono hm'); (try (have hq0 : hm' = Mem.le_refl _ := rfl; clear hq0 hm'))) | ((with_reducible apply At.box (d := 2)); exact rfl; exact rfl; exact rfl; intro b2) | ((with_reducible apply At.alloc (d := 4)); exact rfl; exact rfl; intro b4) | ((with_reducible apply At.alloc (d := 6)); exact rfl; exact rfl; intro b6) | ((with_reducible apply At.alloc (d := 9)); exact rfl; exact rfl; intro b9) | ((with_reducible apply At.alloc (d := 10)); exact rfl; exact rfl; intro b10) | (refine zsp ?_ ?_ <;> (intro hc; (try simp only [zhcs, reduceCtorEq] at hc); (try (exfalso; first | omega | contradiction | omega | exact absurd rfl hc | exact absurd (by decide) hc))))))
  all_goals ((with_reducible refine At.reachk ((⟨k + 1, m', y⟩ : PS)) ?_ ?_ ?_ ?_); exact zsubs; exact zml; exact zente; exact ⟨⟨zml, hkl, hy, hyI, by rw [hyl]; exact hlab⟩, by show l.length - (k + 1) < l.length - k; omega⟩)
/-- what fits -/
def ft (K : Cfg) (l : List Ev) : Prop := K.ok ∧ (K.x ≤ 40 ∧ K.y ≤ 40 ∧ K.w ≤ 40) ∧ l.length ≤ 60 ∧ Mrg.chk l = 0
instance (K : Cfg) (l : List Ev) : Decidable (ft K l) := by unfold ft; infer_instance
theorem sm_iff {K : Cfg} {x : Ser} (h : SI K [] x) (hl : x.lab.l = la) : x.sm ↔ K.x ≤ 40 ∧ K.y ≤ 40 ∧ K.w ≤ 40 := by
  have h1 := h.inv.a.len
  have h2 := h.inv.b.len
  have h3 := h.inv.c.len
  have h4 : x.raw.l.length ≤ 60 := by have := h.raw.le; exact Nat.le_trans this (by decide)
  change (x.t0.l.length : Int) = _ at h1
  change (x.t1.l.length : Int) = _ at h2
  change (x.t2.l.length : Int) = _ at h3
  unfold Ser.sm
  rw [hl]
  constructor
  · rintro ⟨-, -, g1, g2, g3⟩
    omega
  · rintro ⟨g1, g2, g3⟩
    exact ⟨la_few, h4, by omega, by omega, by omega⟩
theorem fits8 {m : Mem} (K : Cfg) (p : Option Addr) (c : Nat) (l : List Ev) (hV : ∀ e ∈ l, e.V < 18446744073709551616) (sl0 : Sl m Ev.cells 4 p c l) :
    Rd Tryz.prog 7 #[K.v, .slice p l.length c] m [] (.bool (decide (ft K l))) := rd_le (by
  by_cases hK : K.ok
  rotate_left
  · rw [decide_eq_false (fun h => hK h.1)]
    have k0 := fun (m : Mem) p c sl => newN (m := m) K p c la (fun h => hK h.1) la_mid sl
    refine Ct.enterV (by rfl) Tryz.func7 rfl Tryz.ntmps7 rfl (fun w0 Rest => ?_)
    (repeat' (first | refine zss ?_ | refine zsM ?_ | ((with_reducible apply At.litF Lb.cells la); exact inferInstance; (iterate 7 exact rfl); intro b' m' hm' sl2; (try replace sl0 := sl0.mono hm')) | ((with_reducible first | apply At.c1 | apply At.c0); exact rfl; exact rfl; exact k0 _ _ _ sl2; exact ztk; kernel_rfl; rintro v' m' B' hm' ⟨rfl, w, rfl, hw⟩; (try replace sl0 := sl0.mono hm'); (try replace sl2 := sl2.mono hm'); (try (have hq0 : hm' = Mem.le_refl _ := rfl; clear hq0 hm'))) | ((with_reducible apply At.box (d := 2)); exact rfl; exact rfl; exact rfl; intro b2) | ((with_reducible apply At.alloc (d := 5)); exact rfl; exact rfl; intro b5) | ((with_reducible apply At.alloc (d := 7)); exact rfl; exact rfl; intro b7) | (refine zsp ?_ ?_ <;> (intro hc; (try simp only [zhcs, reduceCtorEq] at hc); (try (exfalso; first | (first | omega | exact absurd hc hw | exact hc hw) | contradiction | omega | exact absurd rfl hc | exact absurd (by decide) hc))))))
    all_goals ((with_reducible apply At.retB1 (B := [])); exact rfl; exact rfl; exact zml; exact zkp; exact ⟨rfl, zml, rfl⟩)
  have k0 := fun (m : Mem) p c sl => new_ (m := m) K p c la hK la_right la_mid sl
  have k1 := fun (m : Mem) (x : Ser) (hx : x.Ok m) => St.small15 (m := m) x hx.lay
  unfold St.smI at k1
  by_cases h1 : K.x ≤ 40 ∧ K.y ≤ 40 ∧ K.w ≤ 40
  rotate_left
  · rw [decide_eq_false (fun h => h1 h.2.1)]
    replace k1 : ∀ (m : Mem) (x : Ser), x.Ok m → (SI K [] x ∧ x.lab.l = la) → Rd _ _ _ _ _ (.int .i64 0) := fun m x hx hI => by
      have := k1 m x hx
      rw [if_neg (fun h => h1 ((sm_iff hI.1 hI.2).1 h))] at this
      exact this
    refine Ct.enterV (by rfl) Tryz.func7 rfl Tryz.ntmps7 rfl (fun w0 Rest => ?_)
    (repeat' (first | refine zss ?_ | refine zsM ?_ | ((with_reducible apply At.litF Lb.cells la); exact inferInstance; (iterate 7 exact rfl); intro b' m' hm' sl2; (try replace sl0 := sl0.mono hm')) | ((with_reducible first | apply At.c1 | apply At.c0); exact rfl; exact rfl; exact k0 _ _ _ sl2; exact ztk; kernel_rfl; rintro v' m' B' hm' ⟨rfl, x, rfl, hx, hI, hlab⟩; (try replace sl0 := sl0.mono hm'); (try replace sl2 := sl2.mono hm'); (try (have hq0 : hm' = Mem.le_refl _ := rfl; clear hq0 hm'))) | ((with_reducible first | apply AtM1.cr | apply AtQ.cr | apply At.cr); exact rfl; exact rfl; exact fun _ hmm => k1 _ x (hx.mono hmm) ⟨hI, hlab⟩; exact ztk; kernel_rfl) | ((with_reducible apply At.box (d := 2)); exact rfl; exact rfl; exact rfl; intro b2) | ((with_reducible apply At.alloc (d := 5)); exact rfl; exact rfl; intro b5) | ((with_reducible apply At.alloc (d := 7)); exact rfl; exact rfl; intro b7) | (refine zsp ?_ ?_ <;> (intro hc; (try simp only [zhcs, reduceCtorEq] at hc); (try (exfalso; first | (first | omega | exact absurd rfl hc) | contradiction | omega | exact absurd rfl hc | exact absurd (by decide) hc))))))
    all_goals ((with_reducible apply At.retB1 (B := [])); exact rfl; exact rfl; exact zml; exact zkp; exact ⟨rfl, zml, rfl⟩)
  replace k1 : ∀ (m : Mem) (x : Ser), x.Ok m → (SI K [] x ∧ x.lab.l = la) → Rd _ _ _ _ _ (.int .i64 1) := fun m x hx hI => by
    have := k1 m x hx
    rw [if_pos ((sm_iff hI.1 hI.2).2 h1)] at this
    exact this
  by_cases h2 : l.length ≤ 60
  rotate_left
  · rw [decide_eq_false (fun h => h2 h.2.2.1)]
    refine Ct.enterV (by rfl) Tryz.func7 rfl Tryz.ntmps7 rfl (fun w0 Rest => ?_)
    (repeat' (first | refine zss ?_ | refine zsM ?_ | ((with_reducible apply At.litF Lb.cells la); exact inferInstance; (iterate 7 exact rfl); intro b' m' hm' sl2; (try replace sl0 := sl0.mono hm')) | ((with_reducible first | apply At.c1 | apply At.c0); exact rfl; exact rfl; exact k0 _ _ _ sl2; exact ztk; kernel_rfl; rintro v' m' B' hm' ⟨rfl, x, rfl, hx, hI, hlab⟩; (try replace sl0 := sl0.mono hm'); (try replace sl2 := sl2.mono hm'); (try (have hq0 : hm' = Mem.le_refl _ := rfl; clear hq0 hm'))) | ((with_reducible first | apply AtM1.cr | apply AtQ.cr | apply At.cr); exact rfl; exact rfl; exact fun _ hmm => k1 _ x (hx.mono hmm) ⟨hI, hlab⟩; exact ztk; kernel_rfl) | ((with_reducible apply At.box (d := 2)); exact rfl; exact rfl; exact rfl; intro b2) | ((with_reducible apply At.alloc (d := 5)); exact rfl; exact rfl; intro b5) | ((with_reducible apply At.alloc (d := 7)); exact rfl; exact rfl; intro b7) | (refine zsp ?_ ?_ <;> (intro hc; (try simp only [zhcs, reduceCtorEq] at hc); (try (exfalso; first | (first | omega | exact absurd rfl hc) | contradiction | omega | exact absurd rfl hc | exact absurd (by decide) hc))))))
    all_goals ((with_reducible apply At.retB1 (B := [])); exact rfl; exact rfl; exact zml; exact zkp; exact ⟨rfl, zml, rfl⟩)
  rw [show decide (ft K l) = decide (Mrg.chk l = 0) from decide_eq_decide.2 ⟨fun h => h.2.2.2, fun h => ⟨hK, h1, h2, h⟩⟩]
  have kf := fun (m' : Mem) (h : m.le m') => Cell.of_ (m := m') p c l (by omega) hV (sl0.mono h)
  have e4 : ∃ x, Cell.ofL l = (x, Mrg.chk l) := by
    unfold Cell.ofL
    by_cases h : Mrg.chk l = 0
    · exact ⟨_, (if_neg (fun k => k h)).trans (by rw [h])⟩
    · exact ⟨_, if_pos h⟩
  obtain ⟨y, e4⟩ := e4
  rw [e4] at kf
  clear e4 hV
  generalize Mrg.chk l = w at *
  refine Ct.enterV (by rfl) Tryz.func7 rfl Tryz.ntmps7 rfl (fun w0 Rest => ?_)
  (repeat' (first | refine zss ?_ | refine zsM ?_ | ((with_reducible apply At.litF Lb.cells la); exact inferInstance; (iterate 7 exact rfl); intro b' m' hm' sl2; (try replace sl0 := sl0.mono hm')) | ((with_reducible first | apply At.c1 | apply At.c0); exact rfl; exact rfl; exact k0 _ _ _ sl2; exact ztk; kernel_rfl; rintro v' m' B' hm' ⟨rfl, x, rfl, hx, hI, hlab⟩; (try replace sl0 := sl0.mono hm'); (try replace sl2 := sl2.mono hm'); (try (have hq0 : hm' = Mem.le_refl _ := rfl; clear hq0 hm'))) | ((with_reducible first | apply AtM1.cr | apply AtQ.cr | apply At.cr); exact rfl; exact rfl; exact fun _ hmm => k1 _ x (hx.mono hmm) ⟨hI, hlab⟩; exact ztk; kernel_rfl) | ((with_reducible first | apply At.c1 | apply At.c0); exact rfl; exact rfl; exact kf _ zml; exact ztk; kernel_rfl; rintro v' m' B' hm' ⟨rfl, rfl, rfl⟩; (try replace sl0 := sl0.mono hm'); (try replace sl2 := sl2.mono hm'); (try (have hq0 : hm' = Mem.le_refl _ := rfl; clear hq0 hm'))) | ((with_reducible apply At.box (d := 2)); exact rfl; exact rfl; exact rfl; intro b2) | ((with_reducible apply At.alloc (d := 5)); exact rfl; exact rfl; intro b5) | ((with_reducible apply At.alloc (d := 7)); exact rfl; exact rfl; intro b7) | (refine zsp ?_ ?_ <;> (intro hc; (try simp only [zhcs, reduceCtorEq] at hc); (try (exfalso; first | (first | omega | exact absurd rfl hc) | contradiction | omega | exact absurd rfl hc | exact absurd (by decide) hc))))))
  all_goals ((with_reducible apply At.retB1 (B := [])); exact rfl; exact rfl; exact zml; exact zkp; exact ⟨rfl, zml, rfl⟩))
abbrev K0 : Cfg := ⟨20, 10, 20, 60, 4, 5, 6, 3, 9⟩
abbrev e5 : Ev := ⟨5, 1, 0, false⟩
theorem good5 : Gr.Good ([] ++ [e5]) := ⟨fun e he => by rw [List.mem_singleton.1 he]; exact ⟨by decide, by decide⟩, List.pairwise_singleton _ _⟩
theorem g5 : G 60 [e5] 0 = Cell.one e5 := by decide
theorem fit5 : Pu Tryz.prog 21 #[] K0.v := Conf.fit
set_option maxRecDepth 100000 in
theorem begins8 {m : Mem} : Rd Tryz.prog 6 #[] m [] (.bool true) := rd_le (by
  have k0 := fun (m : Mem) p c sl => new_ (m := m) K0 p c la Conf.fit_ok la_right la_mid sl
  have k1 := fun (m : Mem) (x : Ser) (hx : x.Ok m) (hI : SI K0 [] x) => put_ (m := m) K0 x [] e5 hI hx good5 (by decide)
  have k2 := fun (m : Mem) (x : Ser) (hx : x.Ok m) (hI : SI K0 [e5] x) => cell2 (m := m) K0 x [e5] 0 hI hx (by decide) (by decide)
  rw [g5] at k2
  have kl : ∀ x : Ser, SI K0 [e5] x → x.last = 5 := fun x hI => hI.last
  have k3 := fun (m : Mem) => Fr.new (m := m) 2 (by decide) (by decide)
  have k4 := fun (m : Mem) b => Fr.len (m := m) b 2 (List.range 2)
  refine Ct.enterV (by rfl) Tryz.func6 rfl Tryz.ntmps6 rfl (fun w0 Rest => ?_)
  (repeat' (first | refine zss ?_ | refine zsM ?_ | ((with_reducible apply At.litF Lb.cells la); exact inferInstance; (iterate 7 exact rfl); intro b' m' hm' sl2; skip) | ((with_reducible first | apply AtM1.callp | apply AtQ.callp | apply At.callp); kernel_rfl; exact rfl; exact rfl; exact fit5) | ((with_reducible first | apply At.c1 | apply At.c0); exact rfl; exact rfl; exact k0 _ _ _ sl2; exact ztk; kernel_rfl; rintro v' m' B' hm' ⟨rfl, x, rfl, hx, hI, hlab⟩; (try replace sl2 := sl2.mono hm'); (try (have hq0 : hm' = Mem.le_refl _ := rfl; clear hq0 hm'))) | ((with_reducible first | apply At.c1 | apply At.c0); exact rfl; exact rfl; exact k1 _ x (hx.mono zml) hI; exact ztk; kernel_rfl; rintro v' m' B' hm' ⟨rfl, y, rfl, hy, hyI, hyl⟩; (try replace sl2 := sl2.mono hm'); (try (have hq0 : hm' = Mem.le_refl _ := rfl; clear hq0 hm'))) | ((with_reducible first | apply AtM1.cr | apply AtQ.cr | apply At.cr); exact rfl; exact rfl; exact fun _ hmm => k2 _ y (hy.mono hmm) hyI; exact ztk; kernel_rfl) | ((with_reducible first | apply At.c1 | apply At.c0); exact rfl; exact rfl; exact k3 _; exact ztk; kernel_rfl; rintro v' m' B' hm' ⟨rfl, bf, rfl, rfl⟩; (try replace sl2 := sl2.mono hm'); (try (have hq0 : hm' = Mem.le_refl _ := rfl; clear hq0 hm'))) | ((with_reducible first | apply AtM1.cr | apply AtQ.cr | apply At.cr); exact rfl; exact rfl; exact fun _ hmm => k4 _ bf; exact ztk; kernel_rfl) | ((with_reducible apply At.alloc (d := 1)); exact rfl; exact rfl; intro b1) | ((with_reducible apply At.alloc (d := 2)); exact rfl; exact rfl; intro b2) | ((with_reducible apply At.alloc (d := 5)); exact rfl; exact rfl; intro b5) | (refine zsp ?_ ?_ <;> (intro hc; (try simp only [zhcs, reduceCtorEq] at hc); (try (exfalso; first | (first | omega | (have := kl y hyI; omega) | exact absurd rfl hc) | contradiction | omega | exact absurd rfl hc | exact absurd (by decide) hc))))))
  all_goals ((with_reducible apply At.retV (B := [])); exact rfl; (repeat' (first | exact RVs.nil | (with_reducible apply RVs.cons) | exact rv_tmp (by rfl) | exact rv_cellN (by rfl) (by repeat constructor) (by rfl) (by rfl) (by rfl) | exact rv_cell1 (by rfl) (by repeat constructor) (by rfl) (by rfl))); exact zml; exact zkp; exact ⟨rfl, zml, rfl⟩))
end T8
end Go.Proofs.YtjdlnckifhifbaaGreat
/- Events that happen later, all by as much: plain. -/
set_option linter.unusedSimpArgs false
set_option linter.unusedVariables false
set_option linter.unusedSectionVars false
set_option maxRecDepth 20000
set_option maxHeartbeats 4000000
namespace Go.Proofs.YtjdlnckifhifbaaGreat
open Go Go.J
namespace Top4
open Ev Mrg
/-- later by so much -/
def later (by_ : Int) (e : Ev) : Ev := ⟨e.T + by_, e.V, if 0 < e.C then e.C + by_ else e.C, e.S⟩
def lat (b : Int) (c : Cell) : Cell := ⟨c.n, later b c.F, later b c.L, c.I, c.R, c.G, c.X⟩
theorem later_ok {b : Int} (hb : 0 ≤ b) {e : Ev} (h : e.ok) : (later b e).ok ↔ e.T + b < 35184372088832 := by
  obtain ⟨h1, h2, h3, h4, h5⟩ := h
  constructor
  · exact fun h => h.2.1
  · intro h
    refine ⟨by show 0 ≤ e.T + b; omega, h, ?_, ?_, fun hS => ?_⟩
    · show 0 ≤ (if 0 < e.C then e.C + b else e.C); split <;> omega
    · show (if 0 < e.C then e.C + b else e.C) ≤ e.T + b; split <;> omega
    · obtain ⟨g1, g2⟩ := h5 hS
      exact ⟨g1, by show (if 0 < e.C then e.C + b else e.C) = 0; rw [if_neg (by omega)]; exact g2⟩
theorem btw_later {b : Int} (hb : 0 ≤ b) {p c : Ev} (hp : p.ok) (hc : c.ok) (hp' : (later b p).ok) (hc' : (later b c).ok) (h : p.T < c.T) : btw (later b p) (later b c) = btw p c := by
  obtain ⟨p1, _, p3, p4, _⟩ := id hp
  obtain ⟨c1, _, c3, c4, _⟩ := id hc
  have e1 : (later b p).T = p.T + b := rfl
  have e2 : (later b c).T = c.T + b := rfl
  have e3 : (later b c).C = if 0 < c.C then c.C + b else c.C := rfl
  unfold btw
  rw [if_neg (not_not_intro (show two (later b p) (later b c) from ⟨hp', hc'⟩)), if_neg (not_not_intro (show two p c from ⟨hp, hc⟩)), if_neg (show ¬ (later b c).T ≤ (later b p).T by omega), if_neg (show ¬ c.T ≤ p.T by omega)]
  rw [show (later b c).S = c.S from rfl, show (later b p).S = p.S from rfl, show (later b c).V = c.V from rfl, show (later b p).V = p.V from rfl]
  by_cases hS : c.S = true
  · rw [if_pos hS, if_pos hS]
  rw [if_neg hS, if_neg hS]
  by_cases hC : 0 < c.C
  · rw [if_pos hC] at e3
    rw [show (later b c).T - (later b c).C = c.T - c.C by omega, show (later b c).T - (later b p).T = c.T - p.T by omega]
    by_cases hq : p.T < c.C
    · rw [if_pos hq, if_pos (show (later b p).T < (later b c).C by omega)]
    · rw [if_neg hq, if_neg (show ¬ (later b p).T < (later b c).C by omega)]
  · rw [if_neg hC] at e3
    rw [if_neg (show ¬ (later b p).T < (later b c).C by omega), if_neg (show ¬ p.T < c.C by omega), show (later b c).T - (later b p).T = c.T - p.T by omega]
theorem lat_ne {b : Int} {c : Cell} (h : 1 ≤ c.n) : lat b c ≠ Cell.z := fun e => by
  have := congrArg Cell.n e
  have e2 : (lat b c).n = c.n := rfl
  rw [e2] at this
  have e3 : Cell.z.n = 0 := rfl
  omega
theorem add_lat {b : Int} (hb : 0 ≤ b) {c : Cell} {e : Ev} (hc : Cell.Full c) (he : e.ok) (h : c.L.T < e.T) (hL : (later b c.L).ok) (he' : (later b e).ok) : Cell.add (lat b c) (later b e) = lat b (Cell.add c e) := by
  rw [show Cell.add (lat b c) (later b e) = Cell.join (lat b c) (Cell.one (later b e)) from if_neg (lat_ne hc.n), show Cell.add c e = Cell.join c (Cell.one e) from if_neg hc.ne]
  have hbt := btw_later hb hc.L he hL he' h
  unfold Cell.join
  rw [show (lat b c).L = later b c.L from rfl, show (Cell.one (later b e)).F = later b e from rfl, show (Cell.one e).F = e from rfl, hbt]
  rfl
theorem fold_lat {b : Int} (hb : 0 ≤ b) : ∀ (l : List Ev) (c : Cell), Cell.Full c → (later b c.L).ok → (∀ e ∈ l, c.L.T < e.T) → (∀ e ∈ l, e.ok ∧ e.V < 18446744073709551616) → (∀ e ∈ l, (later b e).ok) → Asc l →
    (l.map (later b)).foldl Cell.add (lat b c) = lat b (l.foldl Cell.add c)
  | [], _, _, _, _, _, _, _ => rfl
  | e :: l, c, hc, hL, hl, ho, hk, ha => by
    obtain ⟨o1, o2⟩ := ho e (List.mem_cons_self ..)
    obtain ⟨a1, a2⟩ := List.pairwise_cons.1 ha
    have h1 := hl e (List.mem_cons_self ..)
    have h2 := hk e (List.mem_cons_self ..)
    obtain ⟨f1, f2, _⟩ := Cell.add_full (.inr ⟨hc, h1⟩) o1 o2
    rw [List.map_cons, List.foldl_cons, List.foldl_cons, add_lat hb hc o1 h1 hL h2]
    exact fold_lat hb l _ f1 (by rw [f2]; exact h2) (fun x hx => by rw [f2]; exact a1 x hx) (fun x hx => ho x (List.mem_cons_of_mem _ hx)) (fun x hx => hk x (List.mem_cons_of_mem _ hx)) a2
theorem asc_later {b : Int} {l : List Ev} (h : Asc l) : Asc (l.map (later b)) := List.pairwise_map.2 (h.imp fun {x y} (hx : x.T < y.T) => by show x.T + b < y.T + b; omega)
theorem of_later {b : Int} (hb : 0 ≤ b) {l : List Ev} (h : (Cell.ofL l).2 = 0) (hV : ∀ e ∈ l, e.V < 18446744073709551616) (hk : ∀ e ∈ l, (later b e).ok) :
    (Cell.ofL (l.map (later b))).2 = 0 ∧ (Cell.ofL (l.map (later b))).1.n = (Cell.ofL l).1.n ∧ (Cell.ofL (l.map (later b))).1.I = (Cell.ofL l).1.I ∧ (Cell.ofL (l.map (later b))).1.R = (Cell.ofL l).1.R ∧ (Cell.ofL (l.map (later b))).1.G = (Cell.ofL l).1.G ∧ (Cell.ofL (l.map (later b))).1.X = (Cell.ofL l).1.X ∧
      (l.length ≠ 0 → (Cell.ofL (l.map (later b))).1.F = (l.map (later b))[0]! ∧ (Cell.ofL (l.map (later b))).1.L = (l.map (later b))[l.length - 1]!) := by
  have hc : chk l = 0 := by
    unfold Cell.ofL at h
    by_cases hq : chk l = 0
    · exact hq
    · rw [if_pos hq] at h; exact absurd h hq
  obtain ⟨c1, c2⟩ := chk_zero.1 hc
  have hc' : chk (l.map (later b)) = 0 := chk_zero.2 ⟨fun e he => by
    obtain ⟨x, hx, rfl⟩ := List.mem_map.1 he
    exact hk x hx, asc_later c2⟩
  have e1 : Cell.ofL l = (l.foldl Cell.add Cell.z, 0) := if_neg (not_not_intro hc)
  have e2 : Cell.ofL (l.map (later b)) = ((l.map (later b)).foldl Cell.add Cell.z, 0) := if_neg (not_not_intro hc')
  rw [e1, e2]
  rcases l with _ | ⟨e, l⟩
  · exact ⟨rfl, rfl, rfl, rfl, rfl, rfl, fun h => absurd rfl h⟩
  · obtain ⟨a1, a2⟩ := List.pairwise_cons.1 c2
    have o1 := c1 e (List.mem_cons_self ..)
    have v1 := hV e (List.mem_cons_self ..)
    have k1 := hk e (List.mem_cons_self ..)
    have ho : ∀ x ∈ l, x.ok ∧ x.V < 18446744073709551616 := fun x hx => ⟨c1 x (List.mem_cons_of_mem _ hx), hV x (List.mem_cons_of_mem _ hx)⟩
    have hf := fold_lat hb l (Cell.one e) (Cell.one_full o1) k1 a1 ho (fun x hx => hk x (List.mem_cons_of_mem _ hx)) a2
    have e3 : ((e :: l).map (later b)).foldl Cell.add Cell.z = lat b ((e :: l).foldl Cell.add Cell.z) := by
      rw [List.map_cons, List.foldl_cons, List.foldl_cons, show Cell.add Cell.z e = Cell.one e from if_pos rfl, show Cell.add Cell.z (later b e) = Cell.one (later b e) from if_pos rfl]
      exact hf
    rw [e3]
    refine ⟨rfl, rfl, rfl, rfl, rfl, rfl, fun _ => ⟨?_, ?_⟩⟩
    · show later b ((e :: l).foldl Cell.add Cell.z).F = later b e
      rw [List.foldl_cons, show Cell.add Cell.z e = Cell.one e from if_pos rfl, Cell.fold_F l _ (Cell.one_full o1) ho a1 a2]
      rfl
    · show later b ((e :: l).foldl Cell.add Cell.z).L = _
      rcases Cell.fold_full (e :: l) Cell.z (.inl rfl) (fun x hx => ⟨c1 x hx, hV x hx⟩) c2 with ⟨h, _⟩ | ⟨h, _, h2⟩
      · cases h
      · rw [h2, getElem!_pos _ _ (by simp), List.getElem_map, List.getLast_eq_getElem]
end Top4
end Go.Proofs.YtjdlnckifhifbaaGreat
/- A series whose events happen later: what is told of windows, plain. -/
set_option linter.unusedSimpArgs false
set_option linter.unusedVariables false
set_option linter.unusedSectionVars false
set_option maxRecDepth 20000
set_option maxHeartbeats 4000000
namespace Go.Proofs.YtjdlnckifhifbaaGreat
open Go Go.J
namespace T8
open Cell Ti Fo Gr Top4 Sv
theorem cel_later {b : Int} (hb : 0 ≤ b) {L : List Ev} (hG : Gr.Good L) (hk : ∀ e ∈ L, (later b e).ok) (hn : L ≠ []) : cel (L.map (later b)) = lat b (cel L) := by
  cases L with
  | nil => exact absurd rfl hn
  | cons e L =>
    obtain ⟨a1, a2⟩ := List.pairwise_cons.1 hG.2
    have o1 := (hG.1 e (List.mem_cons_self ..)).1
    have k1 := hk e (List.mem_cons_self ..)
    have hf := fold_lat hb L (Cell.one e) (Cell.one_full o1) k1 a1 (fun x hx => hG.1 x (List.mem_cons_of_mem _ hx)) (fun x hx => hk x (List.mem_cons_of_mem _ hx)) a2
    unfold cel
    rw [List.map_cons, List.foldl_cons, List.foldl_cons, show Cell.add Cell.z e = Cell.one e from if_pos rfl, show Cell.add Cell.z (later b e) = Cell.one (later b e) from if_pos rfl]
    exact hf
theorem good_later {b : Int} {L : List Ev} (hG : Gr.Good L) (hk : ∀ e ∈ L, (later b e).ok)   : Gr.Good (L.map (later b)) := ⟨fun e he => by
  obtain ⟨x, hx, rfl⟩ := List.mem_map.1 he
  exact ⟨hk x hx, (hG.1 x hx).2⟩, asc_later hG.2⟩
theorem div_later {w D : Int} (hw : 1 ≤ w) (e : Ev) : (later (w * D) e).T / w = e.T / w + D := by
  show (e.T + w * D) / w = _
  rw [Int.add_mul_ediv_left _ _ (by omega)]
theorem lastT_later {b : Int} {L : List Ev} (hn : L ≠ []) : lastT (L.map (later b)) = lastT L + b := by
  rw [lastT_get hn, lastT_get (by simpa using hn), List.getLast_map]
  rfl
theorem sel_later {w n c i j D : Int} {L : List Ev} (hw : 1 ≤ w) : sel w n (c + D) (L.map (later (w * D))) (i + D) (j + D) = (sel w n c L i j).map (later (w * D)) := by
  unfold sel
  rw [List.filter_map]
  congr 1
  refine List.filter_congr fun e he => decide_eq_decide.2 ?_
  rw [div_later hw]
  have hK : Kp w n (c + D) (L.map (later (w * D))) (e.T / w + D) ↔ Kp w n c L (e.T / w) := by
    unfold Kp
    constructor
    · intro h x hx h1 h2 h3
      refine h (later (w * D) x) (List.mem_map.2 ⟨x, hx, rfl⟩) (by rw [div_later hw]; omega) (by rw [div_later hw]; omega) ?_
      rw [div_later hw]
      exact (Int.emod_add_cancel_right D).2 h3
    · intro h y hy h1 h2 h3
      obtain ⟨x, hx, rfl⟩ := List.mem_map.1 hy
      rw [div_later hw] at h1 h2 h3
      exact h x hx (by omega) (by omega) ((Int.emod_add_cancel_right D).1 h3)
  rw [hK]
  constructor
  · rintro ⟨⟨h1, h2⟩, h3⟩; exact ⟨⟨by omega, by omega⟩, h3⟩
  · rintro ⟨⟨h1, h2⟩, h3⟩; exact ⟨⟨by omega, by omega⟩, h3⟩
/-- told of as much, later -/
theorem rg_later {K : Cfg} {L : List Ev} {k : Nat} {i j D : Int} (hD : 0 ≤ D) (hw : 1 ≤ Kw K k) (hG : Gr.Good L) (hk : ∀ e ∈ L, (later (Kw K k * D) e).ok) :
    ∃ F' L' : Ev, rg K (L.map (later (Kw K k * D))) k (i + D) (j + D) = ⟨(rg K L k i j).n, F', L', (rg K L k i j).I, (rg K L k i j).R, (rg K L k i j).G, (rg K L k i j).X⟩ ∧
      ((rg K L k i j).n = 0 ∨ (F'.T = (rg K L k i j).F.T + Kw K k * D ∧ L'.T = (rg K L k i j).L.T + Kw K k * D ∧ F'.V = (rg K L k i j).F.V ∧ L'.V = (rg K L k i j).L.V ∧ (0 ≤ F'.T ∧ F'.T < 35184372088832) ∧ (0 ≤ L'.T ∧ L'.T < 35184372088832))) := by
  have hS : rg K (L.map (later (Kw K k * D))) k (i + D) (j + D) = cel ((sel (Kw K k) (Kn K k) (lastT L / Kw K k) L i j).map (later (Kw K k * D))) := by
    by_cases hn : L = []
    · subst hn; rfl
    · unfold rg
      rw [lastT_later hn, show (lastT L + Kw K k * D) / Kw K k = lastT L / Kw K k + D from Int.add_mul_ediv_left _ _ (by omega), sel_later hw]
  rw [hS]
  have hsub : (sel (Kw K k) (Kn K k) (lastT L / Kw K k) L i j).Sublist L := List.filter_sublist
  have hr : rg K L k i j = cel (sel (Kw K k) (Kn K k) (lastT L / Kw K k) L i j) := rfl
  rw [hr]
  generalize sel (Kw K k) (Kn K k) (lastT L / Kw K k) L i j = S at *
  by_cases hs : S = []
  · subst hs
    exact ⟨Cell.z.F, Cell.z.L, rfl, .inl rfl⟩
  · have hGS := hG.sub hsub
    have hkS := fun e he => hk e (hsub.subset he)
    have hD' : 0 ≤ Kw K k * D := Int.mul_nonneg (by omega) hD
    rw [cel_later hD' hGS hkS hs]
    obtain ⟨-, h1, h2, -⟩ := cel_full hGS hs
    have o1 := hkS _ h1
    have o2 := hkS _ h2
    unfold Ev.ok at o1 o2
    exact ⟨later (Kw K k * D) (cel S).F, later (Kw K k * D) (cel S).L, rfl, .inr ⟨rfl, rfl, rfl, rfl, ⟨o1.1, o1.2.1⟩, ⟨o2.1, o2.2.1⟩⟩⟩
end T8
end Go.Proofs.YtjdlnckifhifbaaGreat
/- From a contract to a law's row: what a law's call leaves of memory. -/
set_option linter.unusedSimpArgs false
set_option linter.unusedVariables false
set_option linter.unusedSectionVars false
set_option maxRecDepth 20000
namespace Go.J
open Go Go.ChangeShapes Go.WideShapes Go.ChangeAt Go.RowKit

def memOf (W : World) : Mem := fun k => W.heap[k]?

theorem HW.init (W : World) : HW W (memOf W) [] W :=
  ⟨rfl, rfl, rfl, Nat.le_refl _, Nat.le_refl _, fun _ _ h => h, fun _ => False, fun _ h => h, fun _ h => h.elim⟩

theorem HW.below {W w' : World} {m' : Mem} {Rs : List Res} (h : HW W m' Rs w') (hm : (memOf W).le m') : Below W.heap.size W w' :=
  ⟨h.os, h.tape, h.output, h.size, fun k hk => by
    have hk' : W.heap[k]? = some W.heap[k] := Array.getElem?_eq_getElem hk
    rw [hk']
    exact h.mem k _ (hm k _ hk')⟩

theorem law_calls {P : Program} {f : FuncId} {args : Array Value} {W : World} (h : Ct P f args (memOf W) [] (fun v _ _ => v = .bool true)) :
    Calls P f args W fun e W' => e = .returned (.bool true) ∧ Below W.heap.size W W' :=
  (h W [] W (HW.init W)).mono fun _ _ ⟨_, _, _, he, hm, hv, hw⟩ => ⟨by rw [he, hv], hw.below hm⟩

theorem law_calls_pu {P : Program} {f : FuncId} {args : Array Value} {W : World} (h : Pu P f args (.bool true)) :
    Calls P f args W fun e W' => e = .returned (.bool true) ∧ Below W.heap.size W W' :=
  law_calls ((h (memOf W)).mono fun _ _ _ _ ⟨hv, _, _⟩ => hv)

/-- the arguments read as they did -/
theorem trodAll_below {H : Type} {enc : TypeId × Value → H} {P : Program} (hl : laidOutB P = true) {W W' : World} (hb : Below W.heap.size W W') :
    ∀ (ts : List TypeId) (vs : List Value) (ds : List (DataW H)) (ps : List MemPlace), (ts.all fun t => P.readableRec t && decide (t < P.types.size)) = true →
      DataW.TrodAll enc P W 0 (fun _ => true) true ts vs ds ps → (∀ x ∈ ps, x.block < W.heap.size) → DataW.TrodAll enc P W' 0 (fun b => decide (b < W.heap.size)) true ts vs ds ps
  | [], vs, ds, ps, _, h, _ => by
    obtain ⟨rfl, rfl, rfl⟩ := trodAll_nil h
    exact trodAll_mk0
  | t :: ts, vs, ds, ps, hr, h, hlt => by
    obtain ⟨v, vs', d, ds', p, q, rfl, rfl, rfl, h0, h1⟩ := trodAll_cons h
    simp only [List.all_cons, Bool.and_eq_true, decide_eq_true_eq] at hr
    exact trodAll_cons_mk (Below.trod hl hr.1.1 hr.1.2 h0 hb (fun x hx => hlt x (by simp [hx]))) (trodAll_below hl hb ts vs' ds' q hr.2 h1 (fun x hx => hlt x (by simp [hx])))

end Go.J
/- A law's slices: opened into lists. -/
set_option linter.unusedSimpArgs false
set_option linter.unusedVariables false
set_option linter.unusedSectionVars false
set_option maxRecDepth 20000
namespace Go.J
open Go Go.ChangeShapes Go.WideShapes Go.ChangeAt Go.RowKit

theorem cell_cells {w : World} {a : Addr} {v : Value} (h : w.cell? a = some v) : a.spot = none ∧ ∃ E cs fz, w.heap[a.block]? = some (.cells cs E fz) ∧ cs[a.off]? = some v := by
  unfold World.cell? at h
  cases hb : w.heap[a.block]? with
  | none => rw [hb] at h; cases h
  | some o =>
    rw [hb] at h
    cases o <;> simp at h
    rename_i cs E fz
    exact ⟨by
      cases hs : a.spot with
      | none => rfl
      | some x => rw [hs] at h; simp at h, E, cs, fz, rfl, h.2⟩

theorem open_sl {α : Type} [Inhabited α] {f : α → List Value} {sz : Nat} (hf : Fl f sz) (φ : α → Prop) {H : Type} {enc : TypeId × Value → H} {P : Program} {W : World} {t e : TypeId} {fuel : Nat} {cs : List Value} {x : DataW H × List MemPlace}
    (ht : P.underlying t = some (.slice e)) (hc : P.cellsOf e = sz)
    (hdec : ∀ n cs' y, cs'.length = sz → DataW.trod enc P W 0 (fun _ => true) true n e cs' = some y → ∃ a, cs' = f a ∧ φ a)
    (h : DataW.trod enc P W 0 (fun _ => true) true fuel t cs = some x) : ∃ p c l, cs = [.slice p l.length c] ∧ Sl (memOf W) f sz p c l ∧ ∀ a ∈ l, φ a := by
  rcases Go.Deep.open_slice ht h with ⟨rfl, _⟩ | ⟨a, len, cap, m, n, D, Pl, rfl, _, hl, hm, hmm, _, hx⟩
  · exact ⟨none, 0, [], rfl, Sl.empty _ hf, fun a ha => by cases ha⟩
  · simp only [if_true] at hmm
    subst hmm
    obtain ⟨A, hA⟩ := Go.Deep.choose_lt (α := α) (n := m) (p := fun i y => W.cells? 0 (a.add (i * sz)) sz = some (f y) ∧ φ y) (fun i hi => by
      obtain ⟨cs', h1, h2⟩ := hx i hi
      rw [hc] at h1
      obtain ⟨_, hlen, _⟩ := World.cells?_some h1
      obtain ⟨y, rfl, hy⟩ := hdec n cs' _ hlen h2
      exact ⟨y, h1, hy⟩)
    have hll : ((List.range len).map A).length = len := by simp
    refine ⟨some a, m, (List.range len).map A, by rw [hll], ⟨hf, by rw [hll]; exact hl, hm, (fun e => by cases e), fun a' ha' hpos => ?_⟩, fun y hy => ?_⟩
    · cases ha'
      have hsz := hf.pos
      have hcell : ∀ i j, i < m → j < sz → W.cell? ((a.add (i * sz)).add j) = (f (A i))[j]? := fun i j hi hj => (World.cells?_some (hA i hi).1).2.2 j hj
      have hlen : ∀ i j, j < sz → ∃ v, (f (A i))[j]? = some v := fun i j hj => ⟨(f (A i))[j]'(by rw [hf.len]; exact hj), List.getElem?_eq_getElem _⟩
      obtain ⟨v0, hv0⟩ := hlen 0 0 hsz
      have h00 := hcell 0 0 hpos hsz
      rw [hv0] at h00
      have e0 : (a.add (0 * sz)).add 0 = a := by simp [Addr.add]
      rw [e0] at h00
      obtain ⟨hspot, E, cs, fz, hb, _⟩ := cell_cells h00
      have ea : ∀ k, a.add k = ⟨a.block, a.off + k, none⟩ := fun k => by cases a; simp only at hspot; subst hspot; exact Addr.add_eq _ _ _
      have hcell' : ∀ i j, i < m → j < sz → cs[a.off + (i * sz + j)]? = (f (A i))[j]? := fun i j hi hj => by
        have := hcell i j hi hj
        rw [ea, Addr.add_eq, World.cell_of hb] at this
        rw [← this, Nat.add_assoc]
      refine ⟨hspot, E, cs, fz, hb, ?_, fun i j hi hj => ?_⟩
      · obtain ⟨v, hv⟩ := hlen (m - 1) (sz - 1) (by omega)
        have h1 := hcell' (m - 1) (sz - 1) (by omega) (by omega)
        rw [hv] at h1
        have h2 := (Array.getElem?_eq_some_iff.1 h1).1
        have h3 : (m - 1) * sz + sz = m * sz := by
          have := Nat.succ_mul (m - 1) sz
          rw [show (m - 1).succ = m by omega] at this; omega
        omega
      · rw [hll] at hi
        rw [hcell' i j (by omega) hj]
        congr 2
        rw [List.getElem!_eq_getElem?_getD]; simp [hi]
    · obtain ⟨i, hi, rfl⟩ := List.mem_map.1 hy
      exact (hA i (by have := List.mem_range.1 hi; omega)).2

/-- a law's argument that is a slice -/
theorem open_sl_arg {α : Type} [Inhabited α] {f : α → List Value} {sz : Nat} (hf : Fl f sz) (φ : α → Prop) {H : Type} {enc : TypeId × Value → H} {P : Program} {W : World} {t e : TypeId} {v : Value} {d : DataW H} {ps : List MemPlace}
    (ht : P.underlying t = some (.slice e)) (hc : P.cellsOf e = sz)
    (hdec : ∀ n cs' y, cs'.length = sz → DataW.trod enc P W 0 (fun _ => true) true n e cs' = some y → ∃ a, cs' = f a ∧ φ a)
    (hsl : ∃ p l c, v = .slice p l c) (h : DataW.Trod enc P W 0 (fun _ => true) true t v d ps) : ∃ p c l, v = .slice p l.length c ∧ Sl (memOf W) f sz p c l ∧ ∀ a ∈ l, φ a := by
  obtain ⟨fuel, hfl⟩ := h
  obtain ⟨p0, l0, c0, rfl⟩ := hsl
  obtain ⟨p, c, l, h1, h2⟩ := open_sl hf φ ht hc hdec hfl
  refine ⟨p, c, l, ?_, h2⟩
  simpa [Value.cells] using h1

theorem dec_int {H : Type} {enc : TypeId × Value → H} {P : Program} {W : World} {e : TypeId} {k : IntKind} (he : P.underlying e = some (.int k)) : ∀ n cs' y, cs'.length = 1 → DataW.trod enc P W 0 (fun _ => true) true n e cs' = some y → ∃ a : Int, cs' = [.int k a] ∧ (Lit.int k a).wf = true := fun n cs' y _ h => by
  obtain ⟨a, h1, _, h3⟩ := DataW.trod_int he h
  exact ⟨a, h1, h3⟩
end Go.J
/- A law's arguments of any plain make: structs of whole numbers, truth values, texts, and slices, opened into their cells. -/
set_option linter.unusedSimpArgs false
set_option linter.unusedVariables false
set_option linter.unusedSectionVars false
set_option maxRecDepth 20000
namespace Go.J
open Go Go.ChangeShapes Go.WideShapes Go.ChangeAt Go.RowKit

inductive LK
  | int (k : IntKind)
  | bool
  | str
  | sl (t : TypeId)

section
variable {H : Type} {enc : TypeId × Value → H} {P : Program} {W : World}

def Fit1 (enc : TypeId × Value → H) (P : Program) (W : World) : LK → Value → Prop
  | .int k, v => ∃ a, v = .int k a ∧ (Lit.int k a).wf = true
  | .bool, v => ∃ b, v = .bool b
  | .str, v => ∃ l, v = .string (str l) ∧ l.length ≤ maxLen
  | .sl t, v => ∃ n y, DataW.trod enc P W 0 (fun _ => true) true n t [v] = some y
def Fit (enc : TypeId × Value → H) (P : Program) (W : World) : List LK → List Value → Prop
  | [], [] => True
  | k :: ks, v :: vs => Fit1 enc P W k v ∧ Fit enc P W ks vs
  | _, _ => False
theorem Fit.append : ∀ {a b : List LK} {x y : List Value}, Fit enc P W a x → Fit enc P W b y → Fit enc P W (a ++ b) (x ++ y)
  | [], _, [], _, _, h => h
  | _ :: _, _, _ :: _, _, ⟨h1, h2⟩, h => ⟨h1, Fit.append h2 h⟩
  | [], _, _ :: _, _, h, _ => h.elim
  | _ :: _, _, [], _, h, _ => h.elim

theorem Fit.cons {k : LK} {ks : List LK} {cs : List Value} (h : Fit enc P W (k :: ks) cs) : ∃ v vs, cs = v :: vs ∧ Fit1 enc P W k v ∧ Fit enc P W ks vs := by
  cases cs with
  | nil => exact h.elim
  | cons v vs => exact ⟨v, vs, rfl, h.1, h.2⟩
theorem Fit.nil {cs : List Value} (h : Fit enc P W [] cs) : cs = [] := by
  cases cs with
  | nil => rfl
  | cons v vs => exact h.elim
theorem Fit1.int {k : IntKind} {v : Value} (h : Fit1 enc P W (.int k) v) : ∃ a, v = .int k a ∧ (Lit.int k a).wf = true := h
theorem Fit1.bool {v : Value} (h : Fit1 enc P W .bool v) : ∃ b, v = .bool b := h
theorem Fit1.str {v : Value} (h : Fit1 enc P W .str v) : ∃ l, v = .string (J.str l) ∧ l.length ≤ maxLen := h

def leavesF (P : Program) (rec : TypeId → Option (List LK)) (total : Nat) : Nat → List Field → Option (List LK)
  | off, [] => match Nat.beq off total with
    | true => some []
    | false => none
  | off, f :: fs => match Nat.beq f.offset off with
    | true => match rec f.type with
      | some a => match leavesF P rec total (off + P.cellsOf f.type) fs with
        | some b => some (a ++ b)
        | none => none
      | none => none
    | false => none
def leavesB (P : Program) : Nat → TypeId → Option (List LK)
  | 0, _ => none
  | d + 1, t => match P.underlying t with
    | some (.int k) => some [.int k]
    | some .bool => some [.bool]
    | some .string => some [.str]
    | some (.slice _) => some [.sl t]
    | some (.struct fs) => leavesF P (leavesB P d) (P.cellsOf t) 0 fs.toList
    | some (.array n e) => match leavesB P d e with
      | some a => match Nat.beq (P.cellsOf t) (n * P.cellsOf e) with
        | true => some (List.replicate n a).flatten
        | false => none
      | none => none
    | _ => none

theorem trod_bool' {t : TypeId} {n : Nat} {cs : List Value} {x : DataW H × List MemPlace} (ht : P.underlying t = some .bool) (h : DataW.trod enc P W 0 (fun _ => true) true n t cs = some x) : ∃ b, cs = [.bool b] := by
  cases n with
  | zero => simp [DataW.trod] at h
  | succ n =>
    unfold DataW.trod at h
    rw [ht] at h
    split at h <;> simp_all

theorem trod_fit : ∀ (d n : Nat) (t : TypeId) (cs : List Value) (x : DataW H × List MemPlace) (ks : List LK), leavesB P d t = some ks → DataW.trod enc P W 0 (fun _ => true) true n t cs = some x → Fit enc P W ks cs
  | 0, _, _, _, _, _, h, _ => by cases h
  | d + 1, n, t, cs, x, ks, h, hx => by
    have ih := trod_fit d
    unfold leavesB at h
    cases hu : P.underlying t with
    | none => rw [hu] at h; cases h
    | some u =>
      rw [hu] at h
      cases u <;> simp only at h <;> try (cases h; done)
      case int k =>
        cases h
        obtain ⟨a, rfl, _, h3⟩ := DataW.trod_int hu hx
        exact ⟨⟨a, rfl, h3⟩, trivial⟩
      case bool =>
        cases h
        obtain ⟨b, rfl⟩ := trod_bool' hu hx
        exact ⟨⟨b, rfl⟩, trivial⟩
      case string =>
        cases h
        obtain ⟨s, rfl, _, h3⟩ := DataW.trod_string hu hx
        obtain ⟨l, rfl⟩ := str_of s
        exact ⟨⟨l, rfl, by rw [str_size] at h3; exact h3⟩, trivial⟩
      case slice e =>
        cases h
        have : ∃ v, cs = [v] := by
          rcases DataW.trod_slice hu hx with ⟨rfl, _⟩ | ⟨a, len, cap, _, _, _, _, rfl, _⟩
          · exact ⟨_, rfl⟩
          · exact ⟨_, rfl⟩
        obtain ⟨v, rfl⟩ := this
        exact ⟨⟨n, x, hx⟩, trivial⟩
      case array k e =>
        cases h1 : leavesB P d e with
        | none => rw [h1] at h; cases h
        | some a =>
          rw [h1] at h
          simp only at h
          cases hb : Nat.beq (P.cellsOf t) (k * P.cellsOf e) with
          | false => rw [hb] at h; cases h
          | true =>
            rw [hb] at h
            cases h
            have hl0 := Nat.eq_of_beq_eq_true hb
            obtain ⟨xs, m, _, _, hlen, hxl, hf⟩ := DataW.trod_array hu hx
            have key : ∀ i, i ≤ k → Fit enc P W ((List.replicate i a).flatten) (cs.drop ((k - i) * P.cellsOf e)) := by
              intro i
              induction i with
              | zero =>
                intro _
                rw [List.drop_eq_nil_of_le (by rw [hlen, hl0, Nat.sub_zero]; exact Nat.le_refl _)]
                trivial
              | succ i ih2 =>
                intro hi
                have e1 := hf (k - (i + 1)) (by omega)
                have hj : k - (i + 1) < xs.length := by omega
                rw [List.getElem?_eq_getElem hj] at e1
                have g1 := ih m e _ _ a h1 e1
                have g2 := ih2 (by omega)
                have e2 : (k - (i + 1)) * P.cellsOf e + P.cellsOf e = (k - i) * P.cellsOf e := by rw [← Nat.succ_mul]; congr 1; omega
                rw [List.replicate_succ, List.flatten_cons, show cs.drop ((k - (i + 1)) * P.cellsOf e) = (cs.drop ((k - (i + 1)) * P.cellsOf e)).take (P.cellsOf e) ++ cs.drop ((k - i) * P.cellsOf e) by
                  rw [← e2, ← List.drop_drop, List.take_append_drop]]
                exact Fit.append g1 g2
            have := key k (Nat.le_refl _)
            simpa using this
      case struct fs =>
        obtain ⟨xs, n', _, _, hlen, hxs, hf⟩ := DataW.trod_struct hu hx
        have hf' : ∀ f ∈ fs.toList, ∃ y, DataW.trod enc P W 0 (fun _ => true) true n' f.type ((cs.drop f.offset).take (P.cellsOf f.type)) = some y := fun f hm => by
          obtain ⟨i, hi, he⟩ := List.mem_iff_getElem.1 hm
          have hi' : i < fs.size := by simpa using hi
          have h1 : fs[i]? = some f := by
            rw [Array.getElem?_eq_getElem hi']
            congr 1
          exact ⟨xs[i], by rw [hf i f h1, List.getElem?_eq_getElem]⟩
        have key : ∀ (l : List Field) (off : Nat) (ks : List LK), (∀ f ∈ l, ∃ y, DataW.trod enc P W 0 (fun _ => true) true n' f.type ((cs.drop f.offset).take (P.cellsOf f.type)) = some y) →
            leavesF P (leavesB P d) (P.cellsOf t) off l = some ks → Fit enc P W ks (cs.drop off) := by
          intro l
          induction l with
          | nil =>
            intro off ks _ h
            unfold leavesF at h
            cases hb : Nat.beq off (P.cellsOf t) with
            | false => rw [hb] at h; cases h
            | true =>
              rw [hb] at h
              cases h
              have := Nat.eq_of_beq_eq_true hb
              rw [List.drop_eq_nil_of_le (by omega)]
              trivial
          | cons f l ihl =>
            intro off ks hl h
            unfold leavesF at h
            cases hb : Nat.beq f.offset off with
            | false => rw [hb] at h; cases h
            | true =>
              rw [hb] at h
              simp only at h
              have hoff := Nat.eq_of_beq_eq_true hb
              cases h1 : leavesB P d f.type with
              | none => rw [h1] at h; cases h
              | some a =>
                rw [h1] at h
                simp only at h
                cases h2 : leavesF P (leavesB P d) (P.cellsOf t) (off + P.cellsOf f.type) l with
                | none => rw [h2] at h; cases h
                | some b =>
                  rw [h2] at h
                  cases h
                  obtain ⟨y, hy⟩ := hl f (List.mem_cons_self ..)
                  rw [hoff] at hy
                  have g1 := ih n' f.type _ y a h1 hy
                  have g2 := ihl (off + P.cellsOf f.type) b (fun g hg => hl g (List.mem_cons_of_mem _ hg)) h2
                  rw [show cs.drop off = (cs.drop off).take (P.cellsOf f.type) ++ cs.drop (off + P.cellsOf f.type) by
                    rw [← List.drop_drop, List.take_append_drop]]
                  exact Fit.append g1 g2
        have := key fs.toList 0 ks hf' h
        simpa using this

/-- an element of a slice, by its leaves -/
theorem dec_flat {α : Type} {f : α → List Value} {φ : α → Prop} {e : TypeId} (ks : List LK) (hk : leavesB P 6 e = some ks) (h : ∀ cs, Fit enc P W ks cs → ∃ a, cs = f a ∧ φ a) :
    ∀ n cs' y, cs'.length = P.cellsOf e → DataW.trod enc P W 0 (fun _ => true) true n e cs' = some y → ∃ a, cs' = f a ∧ φ a := fun n cs' y _ hy =>
  h cs' (trod_fit 6 n e cs' y ks hk hy)
theorem dec_flat' {α : Type} {f : α → List Value} {φ : α → Prop} {e : TypeId} {sz : Nat} (ks : List LK) (hk : leavesB P 6 e = some ks) (h : ∀ cs, Fit enc P W ks cs → ∃ a, cs = f a ∧ φ a) :
    ∀ n cs' y, cs'.length = sz → DataW.trod enc P W 0 (fun _ => true) true n e cs' = some y → ∃ a, cs' = f a ∧ φ a := fun n cs' y _ hy =>
  h cs' (trod_fit 6 n e cs' y ks hk hy)
/-- an argument that is a struct -/
theorem open_flat_arg {α : Type} {f : α → List Value} {φ : α → Prop} {t : TypeId} {fs : Array Field} {base : Nat} {v : Value} {d : DataW H} {ps : List MemPlace} (ks : List LK) (ht : P.underlying t = some (.struct fs)) (hk : leavesB P 6 t = some ks)
    (h : ∀ cs, Fit enc P W ks cs → ∃ a, cs = f a ∧ φ a) {r : Reach} (hv : Value.okWide P W r base t v) (hx : DataW.Trod enc P W 0 (fun _ => true) true t v d ps) : ∃ a, v = .agg (f a).toArray ∧ φ a := by
  obtain ⟨cs, rfl, _⟩ := okWide_struct ht hv
  obtain ⟨fuel, hfl⟩ := hx
  obtain ⟨a, h1, h2⟩ := h _ (trod_fit 6 fuel t _ _ ks hk hfl)
  refine ⟨a, ?_, h2⟩
  have : cs.toList = f a := by simpa [Value.cells] using h1
  rw [← this]
/-- a slice that is part of something -/
theorem Fit1.sl {α : Type} [Inhabited α] {f : α → List Value} {sz : Nat} (hf : Fl f sz) (φ : α → Prop) {t e : TypeId} {v : Value} (ht : P.underlying t = some (.slice e)) (hc : P.cellsOf e = sz)
    (hdec : ∀ n cs' y, cs'.length = sz → DataW.trod enc P W 0 (fun _ => true) true n e cs' = some y → ∃ a, cs' = f a ∧ φ a) (h : Fit1 enc P W (.sl t) v) : ∃ p c l, v = .slice p l.length c ∧ Sl (memOf W) f sz p c l ∧ ∀ a ∈ l, φ a := by
  obtain ⟨n, y, hy⟩ := h
  obtain ⟨p, c, l, h1, h2⟩ := open_sl hf φ ht hc hdec hy
  exact ⟨p, c, l, by simpa using h1, h2⟩
end
end Go.J
/- A law's arguments that are events. -/
set_option linter.unusedSimpArgs false
set_option linter.unusedVariables false
set_option linter.unusedSectionVars false
set_option maxRecDepth 20000
set_option maxHeartbeats 4000000
namespace Go.Proofs.YtjdlnckifhifbaaGreat
open Go Go.J
attribute [local irreducible] At AtQ AtM AtM1 PR Ct Pu Rd Res.blk Res.own Res.ex RVs RV
namespace Ev
def In (e : Ev) : Prop := -9223372036854775808 ≤ e.T ∧ e.T ≤ 9223372036854775807 ∧ e.V < 18446744073709551616 ∧ -9223372036854775808 ≤ e.C ∧ e.C ≤ 9223372036854775807
theorem dec_ev {H : Type} {enc : TypeId × Value → H} {P : Program} {W : World} : ∀ cs, Fit enc P W [.int .i64, .int .u64, .int .i64, .bool] cs → ∃ a : Ev, cs = a.cells ∧ In a := by
  intro cs h
  obtain ⟨_, _, rfl, h1, h⟩ := h.cons
  obtain ⟨_, _, rfl, h2, h⟩ := h.cons
  obtain ⟨_, _, rfl, h3, h⟩ := h.cons
  obtain ⟨_, _, rfl, h4, h⟩ := h.cons
  obtain rfl := h.nil
  obtain ⟨a, rfl, wa⟩ := h1.int
  obtain ⟨b, rfl, wb⟩ := h2.int
  obtain ⟨c, rfl, wc⟩ := h3.int
  obtain ⟨t, rfl⟩ := h4.bool
  have hb := bounds_u64 wb
  have ha := bounds_i64 wa
  have hc := bounds_i64 wc
  refine ⟨⟨a, b.toNat, c, t⟩, ?_, ha.1, ha.2, by show b.toNat < _; omega, hc.1, hc.2⟩
  show _ = [_, Value.int .u64 (b.toNat : Int), _, _]
  rw [Int.toNat_of_nonneg (by omega)]
end Ev
end Go.Proofs.YtjdlnckifhifbaaGreat
/- A law's argument that is a configuration. -/
set_option linter.unusedSimpArgs false
set_option linter.unusedVariables false
set_option linter.unusedSectionVars false
set_option maxRecDepth 20000
set_option maxHeartbeats 4000000
namespace Go.Proofs.YtjdlnckifhifbaaGreat
open Go Go.J
namespace Cfg
open Go.RowKit
theorem dec_cfg {H : Type} {enc : TypeId × Value → H} {P : Program} {W : World} : ∀ cs, Go.J.Fit enc P W [.int .i64, .int .i64, .int .i64, .int .i64, .int .i64, .int .i64, .int .i64, .int .i64, .int .i64] cs → ∃ K : Cfg, cs = cells K ∧ True := by
  intro cs h
  obtain ⟨_, _, rfl, h0, h⟩ := h.cons
  obtain ⟨_, _, rfl, h1, h⟩ := h.cons
  obtain ⟨_, _, rfl, h2, h⟩ := h.cons
  obtain ⟨_, _, rfl, h3, h⟩ := h.cons
  obtain ⟨_, _, rfl, h4, h⟩ := h.cons
  obtain ⟨_, _, rfl, h5, h⟩ := h.cons
  obtain ⟨_, _, rfl, h6, h⟩ := h.cons
  obtain ⟨_, _, rfl, h7, h⟩ := h.cons
  obtain ⟨_, _, rfl, h8, h⟩ := h.cons
  obtain rfl := h.nil
  obtain ⟨x0, rfl, _⟩ := h0.int
  obtain ⟨x1, rfl, _⟩ := h1.int
  obtain ⟨x2, rfl, _⟩ := h2.int
  obtain ⟨x3, rfl, _⟩ := h3.int
  obtain ⟨x4, rfl, _⟩ := h4.int
  obtain ⟨x5, rfl, _⟩ := h5.int
  obtain ⟨x6, rfl, _⟩ := h6.int
  obtain ⟨x7, rfl, _⟩ := h7.int
  obtain ⟨x8, rfl, _⟩ := h8.int
  exact ⟨⟨x0, x1, x2, x3, x4, x5, x6, x7, x8⟩, rfl, trivial⟩
end Cfg
end Go.Proofs.YtjdlnckifhifbaaGreat
/- TopShifted: what all three tiers' walks use. -/
set_option linter.unusedSimpArgs false
set_option linter.unusedVariables false
set_option linter.unusedSectionVars false
set_option maxRecDepth 20000
set_option maxHeartbeats 4000000
namespace Go.Proofs.YtjdlnckifhifbaaGreat
open Go Go.J
attribute [local irreducible] At AtQ AtM AtM1 PR Ct Pu Rd Res.blk Res.own Res.ex RVs RV
namespace T8
open Slot Ti Gr Se Sv Top4
open Fo hiding pt
theorem wd_dec (a b : Nat) : decide (a = b) = andL [decide (((a / 18446744073709551616 : Nat) : Int) = ((b / 18446744073709551616 : Nat) : Int)), decide (((a % 18446744073709551616 : Nat) : Int) = ((b % 18446744073709551616 : Nat) : Int))] := by
  by_cases h : a = b
  · subst h; simp [andL]
  · rw [decide_eq_false h]
    by_cases h1 : ((a / 18446744073709551616 : Nat) : Int) = ((b / 18446744073709551616 : Nat) : Int)
    · rw [decide_eq_true h1, decide_eq_false (by omega)]; rfl
    · rw [decide_eq_false h1]; rfl
theorem pr_wne {n : Nat} {F : Fr} {C : World → Prop} {x y : Operand} {u : TypeId} {a b : Nat} (hx : ev F x = some (Wide.wv a)) (hy : ev F y = some (Wide.wv b)) : PR Tryz.prog n F C (.binOp .neq 38 x y u) (.bool (!decide (a = b))) := by
  rw [wd_dec]
  exact pr_aggne2 hx hy (by rfl) (by kernel_rfl) (by kernel_rfl) (by rfl)
structure SS where
  (k : Nat) (p : Option Addr) (c : Nat) (O : List Ev)
end T8
end Go.Proofs.YtjdlnckifhifbaaGreat
/- TopShifted: tier 0. -/
set_option linter.unusedSimpArgs false
set_option linter.unusedVariables false
set_option linter.unusedSectionVars false
set_option maxRecDepth 20000
set_option maxHeartbeats 4000000
namespace Go.Proofs.YtjdlnckifhifbaaGreat
open Go Go.J
attribute [local irreducible] At AtQ AtM AtM1 PR Ct Pu Rd Res.blk Res.own Res.ex RVs RV
namespace T8
open Slot Ti Gr Se Sv Top4
open Fo hiding pt
set_option maxRecDepth 100000 in
theorem shift0 {m : Mem} (K : Cfg) (p : Option Addr) (c : Nat) (l : List Ev) (by_ i j : Int) (hby : 0 ≤ by_ ∧ by_ ≤ 255) (hV : ∀ e ∈ l, e.V < 18446744073709551616) (h1 : ft K l) (h3 : ((0 : Int) ≤ 0 ∧ (0 : Int) ≤ 2) ∧ (0 ≤ i ∧ i ≤ j) ∧ j ≤ 1099511627776 ∧ K.d ≤ 1073741824) (sl0 : Sl m Ev.cells 4 p c l) :
    Ct Tryz.prog 3 #[K.v, .slice p l.length c, .int .u8 by_, .int .i64 0, .int .i64 i, .int .i64 j] m [] (fun v m' B => v = .bool true ∧ B = []) := by
  have hlv := fun (m' : Mem) (h : m.le m') => begins8 (m := m')
  have kf1 := fun (m' : Mem) (h : m.le m') => fits8 (m := m') K p c l hV (sl0.mono h)
  rw [decide_eq_true h1] at kf1
  have hln : l.length ≤ 60 := h1.2.2.1
  have hG : Gr.Good l := by
    obtain ⟨g1, g2⟩ := Mrg.chk_zero.1 h1.2.2.2
    exact ⟨fun e he => ⟨g1 e he, hV e he⟩, g2⟩
  have hKd := h1.1.hd
  have hd1 : 0 ≤ K.d * by_ := Int.mul_nonneg (by omega) hby.1
  have hd2 : K.d * by_ ≤ 1073741824 * 255 := Int.mul_le_mul h3.2.2.2 hby.2 hby.1 (by decide)
  obtain ⟨dd, hdd⟩ : ∃ dd, K.d * by_ = dd := ⟨_, rfl⟩
  have hmu : IntKind.wrap .i64 (K.d * by_) = dd := (IntWalk.i64_in _ (by omega)).trans hdd
  have kp1 := fun (m' : Mem) (h : m.le m') => put8 (m := m') K p c l h1.1 hG (by omega) (sl0.mono h)
  rw [hdd] at hd1 hd2
  clear hV
  refine Ct.enterV (by rfl) Tryz.func3 rfl Tryz.ntmps3 rfl (fun w0 Rest => ?_)
  (repeat' (first | (refine At.cutp (id := 3) (False) 57 [1, 2, 3, 4, 5, 6] (by rfl) ?_ ?_) | refine zss ?_ | ((first | (with_reducible first | apply At.val | apply AtQ.val)); (first | exact pr_indexArr (k := 2) (by rfl) (by rfl) (by rfl) (by rfl) (by decide) | exact pr_mul (by rfl) (by rfl) hmu); exact rfl) | refine zsM ?_ | ((with_reducible first | apply AtM1.cr | apply AtQ.cr | apply At.cr); exact rfl; exact rfl; exact fun _ hmm => hlv _ zml; exact ztk; kernel_rfl) | ((with_reducible first | apply AtM1.cr | apply AtQ.cr | apply At.cr); exact rfl; exact rfl; exact fun _ hmm => kf1 _ hmm; exact ztk; kernel_rfl) | ((with_reducible apply At.endp); exact rfl; exact zsubs; exact zml; exact zente; (first | (simp_all; done) | (simp_all <;> omega))) | ((with_reducible apply At.box (d := 6)); exact rfl; exact rfl; exact rfl; intro b6) | ((with_reducible apply At.alloc (d := 16)); exact rfl; exact rfl; intro b16) | ((with_reducible apply At.alloc (d := 17)); exact rfl; exact rfl; intro b17) | ((with_reducible apply At.alloc (d := 19)); exact rfl; exact rfl; intro b19) | ((with_reducible apply At.alloc (d := 21)); exact rfl; exact rfl; intro b21) | ((with_reducible apply At.alloc (d := 23)); exact rfl; exact rfl; intro b23) | (refine zsp ?_ ?_ <;> (intro hc; (try simp only [zhcs, reduceCtorEq] at hc); (try (exfalso; first | (first | omega | exact absurd rfl hc | exact hc) | contradiction | omega | exact absurd rfl hc | exact absurd (by decide) hc))))))
  refine At.own_nil Ev.cells 4 31 ?_
  (refine At.loopk (σ := SS) [1, 3, 4, 5, 6, 13, 64, 65] (fun s F0 => (66, .int .i64 (s.k : Int)) :: (14, .slice s.p s.O.length s.c) :: F0) (fun s => m) (fun s => .own Ev.cells 4 31 s.p s.c s.O :: .blk b6 25 K.cells :: Rest) (fun s => s.k ≤ l.length ∧ s.O = (l.take s.k).map (later dd) ∧ ∀ e ∈ l.take s.k, (later dd e).ok) (fun s => l.length - s.k) ⟨0, none, 0, []⟩ (by rfl) ?_ zsubs zml zente ?_)
  · exact ⟨Nat.zero_le _, rfl, fun e he => absurd he List.not_mem_nil⟩
  rintro ⟨n, pp, cc, O⟩ ⟨hn, hO, hok⟩
  dsimp only at hn hO hok ⊢
  by_cases hnl : n < l.length
  · have hsn := Ls.take_snoc hnl
    have hev := (hG.1 l[n]! (by rw [getElem!_pos l n hnl]; exact List.getElem_mem hnl)).1
    have hOl : O.length ≤ 60 := by rw [hO, List.length_map, List.length_take]; omega
    have heo := hev
    unfold Ev.ok at heo
    have hT : IntKind.wrap .i64 ((l[n]!).T + dd) = (l[n]!).T + dd := IntWalk.i64_in _ (by omega)
    by_cases hTb : (l[n]!).T + dd < 35184372088832
    · have hlo := (later_ok hd1 hev).2 hTb
      have hO2 : O ++ [later dd l[n]!] = (l.take (n + 1)).map (later dd) := by rw [hsn, List.map_append, ← hO]; rfl
      have hok2 : ∀ e ∈ l.take (n + 1), (later dd e).ok := fun e he => by
        rw [hsn] at he
        rcases List.mem_append.1 he with he | he
        · exact hok e he
        · rw [List.mem_singleton.1 he]; exact hlo
      clear hsn hlo hO hok hlv kf1 kp1 hG h1 hev
      by_cases hC : 0 < (l[n]!).C
      · have hCw : IntKind.wrap .i64 ((l[n]!).C + dd) = (l[n]!).C + dd := IntWalk.i64_in _ (by omega)
        have el : later dd l[n]! = ⟨(l[n]!).T + dd, (l[n]!).V, (l[n]!).C + dd, (l[n]!).S⟩ := by unfold later; rw [if_pos hC]
        rw [el] at hO2
        clear el
        (repeat' (first | refine zss ?_ | ((first | (with_reducible first | apply At.val | apply AtQ.val)); (first | exact pr_add (by rfl) (by rfl) hT | exact pr_add (by rfl) (by rfl) hCw); exact rfl) | refine zsM ?_ | ((with_reducible apply At.lit Ev.cells [(⟨(l[n]!).T + dd, (l[n]!).V, (l[n]!).C + dd, (l[n]!).S⟩ : Ev)]); exact inferInstance; (iterate 7 exact rfl); intro _) | ((with_reducible apply At.apW (f := Ev.cells)); exact rfl; exact rfl; exact (by repeat constructor); exact inferInstance; exact zrdl; (iterate 4 exact rfl); exact zom; exact rfl; intro p3 c3) | ((with_reducible apply At.box (d := 6)); exact rfl; exact rfl; exact rfl; intro b6) | ((with_reducible apply At.alloc (d := 16)); exact rfl; exact rfl; intro b16) | ((with_reducible apply At.alloc (d := 17)); exact rfl; exact rfl; intro b17) | ((with_reducible apply At.alloc (d := 19)); exact rfl; exact rfl; intro b19) | ((with_reducible apply At.alloc (d := 21)); exact rfl; exact rfl; intro b21) | ((with_reducible apply At.alloc (d := 23)); exact rfl; exact rfl; intro b23) | (refine zsp ?_ ?_ <;> (intro hc; (try simp only [zhcs, reduceCtorEq] at hc); (try (exfalso; first | omega | contradiction | omega | exact absurd rfl hc | exact absurd (by decide) hc))))))
        all_goals ((with_reducible refine At.reachk ((⟨n + 1, p3, c3, O ++ [(⟨(l[n]!).T + dd, (l[n]!).V, (l[n]!).C + dd, (l[n]!).S⟩ : Ev)]⟩ : SS)) ?_ ?_ ?_ ?_); exact zsubs; exact zml; exact zente; exact ⟨⟨hnl, hO2, hok2⟩, by dsimp only; omega⟩)
      · have el : later dd l[n]! = ⟨(l[n]!).T + dd, (l[n]!).V, (l[n]!).C, (l[n]!).S⟩ := by unfold later; rw [if_neg hC]
        rw [el] at hO2
        clear el
        (repeat' (first | refine zss ?_ | ((first | (with_reducible first | apply At.val | apply AtQ.val)); (exact pr_add (by rfl) (by rfl) hT); exact rfl) | refine zsM ?_ | ((with_reducible apply At.lit Ev.cells [(⟨(l[n]!).T + dd, (l[n]!).V, (l[n]!).C, (l[n]!).S⟩ : Ev)]); exact inferInstance; (iterate 7 exact rfl); intro _) | ((with_reducible apply At.apW (f := Ev.cells)); exact rfl; exact rfl; exact (by repeat constructor); exact inferInstance; exact zrdl; (iterate 4 exact rfl); exact zom; exact rfl; intro p3 c3) | ((with_reducible apply At.box (d := 6)); exact rfl; exact rfl; exact rfl; intro b6) | ((with_reducible apply At.alloc (d := 16)); exact rfl; exact rfl; intro b16) | ((with_reducible apply At.alloc (d := 17)); exact rfl; exact rfl; intro b17) | ((with_reducible apply At.alloc (d := 19)); exact rfl; exact rfl; intro b19) | ((with_reducible apply At.alloc (d := 21)); exact rfl; exact rfl; intro b21) | ((with_reducible apply At.alloc (d := 23)); exact rfl; exact rfl; intro b23) | (refine zsp ?_ ?_ <;> (intro hc; (try simp only [zhcs, reduceCtorEq] at hc); (try (exfalso; first | omega | contradiction | omega | exact absurd rfl hc | exact absurd (by decide) hc))))))
        all_goals ((with_reducible refine At.reachk ((⟨n + 1, p3, c3, O ++ [(⟨(l[n]!).T + dd, (l[n]!).V, (l[n]!).C, (l[n]!).S⟩ : Ev)]⟩ : SS)) ?_ ?_ ?_ ?_); exact zsubs; exact zml; exact zente; exact ⟨⟨hnl, hO2, hok2⟩, by dsimp only; omega⟩)
    · clear hsn hO hok hlv kf1 kp1 hG h1 hev
      by_cases hC : 0 < (l[n]!).C
      · have hCw : IntKind.wrap .i64 ((l[n]!).C + dd) = (l[n]!).C + dd := IntWalk.i64_in _ (by omega)
        (repeat' (first | refine zss ?_ | ((first | (with_reducible first | apply At.val | apply AtQ.val)); (first | exact pr_add (by rfl) (by rfl) hT | exact pr_add (by rfl) (by rfl) hCw); exact rfl) | refine zsM ?_ | ((with_reducible apply At.box (d := 6)); exact rfl; exact rfl; exact rfl; intro b6) | ((with_reducible apply At.alloc (d := 16)); exact rfl; exact rfl; intro b16) | ((with_reducible apply At.alloc (d := 17)); exact rfl; exact rfl; intro b17) | ((with_reducible apply At.alloc (d := 19)); exact rfl; exact rfl; intro b19) | ((with_reducible apply At.alloc (d := 21)); exact rfl; exact rfl; intro b21) | ((with_reducible apply At.alloc (d := 23)); exact rfl; exact rfl; intro b23) | (refine zsp ?_ ?_ <;> (intro hc; (try simp only [zhcs, reduceCtorEq] at hc); (try (exfalso; first | omega | contradiction | omega | exact absurd rfl hc | exact absurd (by decide) hc))))))
        all_goals ((with_reducible apply At.retB1 (B := [])); exact rfl; exact rfl; exact zml; exact zkp; exact ⟨rfl, rfl⟩)
      · (repeat' (first | refine zss ?_ | ((first | (with_reducible first | apply At.val | apply AtQ.val)); (exact pr_add (by rfl) (by rfl) hT); exact rfl) | refine zsM ?_ | ((with_reducible apply At.box (d := 6)); exact rfl; exact rfl; exact rfl; intro b6) | ((with_reducible apply At.alloc (d := 16)); exact rfl; exact rfl; intro b16) | ((with_reducible apply At.alloc (d := 17)); exact rfl; exact rfl; intro b17) | ((with_reducible apply At.alloc (d := 19)); exact rfl; exact rfl; intro b19) | ((with_reducible apply At.alloc (d := 21)); exact rfl; exact rfl; intro b21) | ((with_reducible apply At.alloc (d := 23)); exact rfl; exact rfl; intro b23) | (refine zsp ?_ ?_ <;> (intro hc; (try simp only [zhcs, reduceCtorEq] at hc); (try (exfalso; first | omega | contradiction | omega | exact absurd rfl hc | exact absurd (by decide) hc))))))
        all_goals ((with_reducible apply At.retB1 (B := [])); exact rfl; exact rfl; exact zml; exact zkp; exact ⟨rfl, rfl⟩)
  rw [List.take_of_length_le (by omega)] at hO hok
  have hGm := good_later hG hok
  rw [← hO] at hGm
  have hOl : O.length = l.length := by rw [hO, List.length_map]
  (refine At.own_freeze inferInstance (by repeat constructor) fun m' hm' sl1 => ?_; (try replace sl0 := sl0.mono hm'))
  have kp2 := fun (m2 : Mem) (h : m'.le m2) => put8 (m := m2) K pp cc O h1.1 hGm (by omega) (sl1.mono h)
  obtain ⟨⟨f1, ef1, eb, g1, g2⟩, ⟨f2, ef2, ed, g3, g4⟩⟩ := cfg_f h1.1
  have hf2 : 0 ≤ f2 * by_ := Int.mul_nonneg (by omega) hby.1
  have hf1 : 0 ≤ f1 * (f2 * by_) := Int.mul_nonneg (by omega) hf2
  have hW2 : K.b * (f2 * by_) = dd := by rw [← Int.mul_assoc, ← ed]; exact hdd
  have hW1 : K.a * (f1 * (f2 * by_)) = dd := by rw [← Int.mul_assoc, ← eb]; exact hW2
  clear hlv kf1 ef1 eb g1 g2 ef2 ed g3 g4 hmu
  generalize f1 * (f2 * by_) = D1 at *
  generalize f2 * by_ = D2 at *
  (repeat' (first | (refine At.cutp (id := 19) (False) 108 [3, 4, 5, 6, 13, 17, 19] (by rfl) ?_ ?_) | refine zss ?_ | refine zsM ?_ | ((with_reducible first | apply At.c1 | apply At.c0); exact rfl; exact rfl; exact kp1 _ zml; exact ztk; kernel_rfl; rintro v' m' B' hm' ⟨rfl, x, rfl, hx9, hI, -⟩; (try replace sl0 := sl0.mono hm'); (try replace sl1 := sl1.mono hm'); (try (have hq0 : hm' = Mem.le_refl _ := rfl; clear hq0 hm'))) | ((with_reducible first | apply At.c1 | apply At.c0); exact rfl; exact rfl; exact kp2 _ zml; exact ztk; kernel_rfl; rintro v' m' B' hm' ⟨rfl, y, rfl, hy9, hJ, -⟩; (try replace sl0 := sl0.mono hm'); (try replace sl1 := sl1.mono hm'); (try (have hq0 : hm' = Mem.le_refl _ := rfl; clear hq0 hm'))) | ((with_reducible apply At.endp); exact rfl; exact zsubs; exact zml; exact zente; (first | (simp_all; done) | (simp_all <;> omega))) | ((with_reducible apply At.box (d := 6)); exact rfl; exact rfl; exact rfl; intro b6) | ((with_reducible apply At.alloc (d := 16)); exact rfl; exact rfl; intro b16) | ((with_reducible apply At.alloc (d := 17)); exact rfl; exact rfl; intro b17) | ((with_reducible apply At.alloc (d := 19)); exact rfl; exact rfl; intro b19) | ((with_reducible apply At.alloc (d := 21)); exact rfl; exact rfl; intro b21) | ((with_reducible apply At.alloc (d := 23)); exact rfl; exact rfl; intro b23) | (refine zsp ?_ ?_ <;> (intro hc; (try simp only [zhcs, reduceCtorEq] at hc); (try (exfalso; first | (first | omega | exact absurd rfl hc | exact hc) | contradiction | omega | exact absurd rfl hc | exact absurd (by decide) hc))))))
  replace hx9 := hx9.mono (show Mem.le _ m' from zml)
  have hrl : x.raw.l.length = y.raw.l.length := by
    have := hI.raw.n
    have := hJ.raw.n
    rw [hOl] at this
    omega
  have hlo : x.lost = y.lost := by
    have := hI.raw.lo
    have := hJ.raw.lo
    rw [hOl, ← hrl] at this
    omega
  have hab := h1.1.ha
  have hbb := h1.1.hb
  · have hq : IntKind.wrap .i64 (dd.tdiv K.a) = D1 := by
      rw [quo_nn (by omega) hab.1, ← hW1]
      exact Int.mul_ediv_cancel_left _ (by omega)
    have hDd : D1 ≤ dd := by
      have h5 := Int.ediv_le_self K.a hd1
      rw [← hW1, Int.mul_ediv_cancel_left _ (by omega), hW1] at h5
      exact h5
    have hW0 : K.a ≠ 0 := by omega
    have hs1 : IntKind.wrap .i64 (i + D1) = i + D1 := IntWalk.i64_in _ (by omega)
    have hs2 : IntKind.wrap .i64 (j + D1) = j + D1 := IntWalk.i64_in _ (by omega)
    have hr := rg_later (K := K) (L := l) (k := 0) (i := i) (j := j) (D := D1) hf1 hab.1 hG (by rw [show Kw K 0 * D1 = dd from hW1]; exact hok)
    rw [show Kw K 0 * D1 = dd from hW1, ← hO] at hr
    obtain ⟨F', L', er, hcs⟩ := hr
    have kr1 := fun (m2 : Mem) (h : m'.le m2) => range0 (m := m2) K x l i j hI (hx9.mono h) (by omega) (by omega)
    have kr2 := fun (m2 : Mem) (h : m'.le m2) => range0 (m := m2) K y O (i + D1) (j + D1) hJ (hy9.mono h) (by omega) (by omega)
    rw [er] at kr2
    clear er hI hJ hx9 hy9 kp1 kp2 hG hGm hO hok h1
    generalize rg K l 0 i j = A at *
    by_cases hA0 : A.n = 0
    · clear hcs
      (repeat' (first | (refine At.cutp (id := 23) (False) 181 [13, 17, 19, 21, 23] (by rfl) ?_ ?_) | (refine At.cutp (id := 25) (True) 12 [] (by rfl) ?_ ?_) | ((with_reducible apply At.mixed (id := 22) 26 (.q 0 (.q 1 (.q 2 (.q 3 (.q 4 (.q 5 (.q 6 (.q 7 (.q 8 (.q 9 (.q 10 (.q 11 (.q 12 (.q 13 (.q 14 (.q 15 (.q 16 (.q 17 (.q 18 (.b 19 23 (.q 20 (.q 21 (.q 22 (.l 23 (.x 24 (.q 25 .done)))))) (.l 19 (.q 20 (.q 21 (.q 22 (.x 24 (.q 25 .done))))))))))))))))))))))))))); exact rfl; kernel_rfl; kernel_rfl; kernel_rfl) | refine zsx ?_ | refine zss ?_ | ((with_reducible apply AtM.bo); exact rfl; exact rfl; exact rfl) | ((first | (with_reducible first | apply At.val | apply AtQ.val) | ((with_reducible first | apply AtM1.valz | apply AtM1.val); exact rfl) | ((with_reducible apply AtM1.val); exact rfl)); (first | exact pr_indexArr (k := 0) (by rfl) (by rfl) (by rfl) (by rfl) (by decide) | exact pr_quo (by rfl) (by rfl) hW0 hq | exact pr_add (by rfl) (by rfl) hs1 | exact pr_add (by rfl) (by rfl) hs2 | exact pr_wne (a := A.I) (b := A.I) (by rfl) (by rfl)); exact rfl) | refine zsM ?_ | refine zxM ?_ | ((with_reducible first | apply AtM1.cr | apply AtQ.cr | apply At.cr); exact rfl; exact rfl; exact fun _ hmm => kr1 _ zml; exact ztk; kernel_rfl) | ((with_reducible first | apply AtM1.cr | apply AtQ.cr | apply At.cr); exact rfl; exact rfl; exact fun _ hmm => kr2 _ zml; exact ztk; kernel_rfl) | ((with_reducible apply At.endp); exact rfl; exact zsubs; exact zml; exact zente; (first | (simp_all; done) | (simp_all <;> omega))) | ((with_reducible apply At.endp); exact rfl; exact zsubs; exact zml; exact zente; (first | (simp_all; done) | (simp_all <;> omega))) | ((with_reducible apply At.box (d := 6)); exact rfl; exact rfl; exact rfl; intro b6) | ((with_reducible apply At.alloc (d := 16)); exact rfl; exact rfl; intro b16) | ((with_reducible apply At.alloc (d := 17)); exact rfl; exact rfl; intro b17) | ((with_reducible apply At.alloc (d := 19)); exact rfl; exact rfl; intro b19) | ((with_reducible apply At.alloc (d := 21)); exact rfl; exact rfl; intro b21) | ((with_reducible apply At.alloc (d := 23)); exact rfl; exact rfl; intro b23) | (refine zsp ?_ ?_ <;> (intro hc; (try simp only [zhcs, reduceCtorEq] at hc); (try (exfalso; first | (first | omega | exact absurd rfl hc | exact hc) | contradiction | omega | exact absurd rfl hc | exact absurd (by decide) hc))))))
      all_goals ((with_reducible apply At.retB1 (B := [])); exact rfl; exact rfl; exact zml; exact zkp; exact ⟨by first | rfl | (simp; done) | (simp [hrl, hlo]; done), rfl⟩)
    · obtain ⟨c1, c2, c3, c4, c5, c6⟩ := hcs.resolve_left hA0
      have ha1 : IntKind.wrap .i64 (A.F.T + dd) = F'.T := by rw [← c1]; exact IntWalk.i64_in _ (by omega)
      have ha2 : IntKind.wrap .i64 (A.L.T + dd) = L'.T := by rw [← c2]; exact IntWalk.i64_in _ (by omega)
      clear hcs
      (repeat' (first | (refine At.cutp (id := 23) (False) 181 [13, 17, 19, 21, 23] (by rfl) ?_ ?_) | ((with_reducible apply At.mixed (id := 22) 26 (.q 0 (.q 1 (.q 2 (.q 3 (.q 4 (.q 5 (.q 6 (.q 7 (.q 8 (.q 9 (.q 10 (.q 11 (.q 12 (.q 13 (.q 14 (.q 15 (.q 16 (.q 17 (.q 18 (.b 19 23 (.q 20 (.q 21 (.q 22 (.l 23 (.x 24 (.q 25 .done)))))) (.l 19 (.q 20 (.q 21 (.q 22 (.x 24 (.q 25 .done))))))))))))))))))))))))))); exact rfl; kernel_rfl; kernel_rfl; kernel_rfl) | refine zsx ?_ | refine zss ?_ | ((with_reducible apply AtM.bo); exact rfl; exact rfl; exact rfl) | ((first | (with_reducible first | apply At.val | apply AtQ.val) | ((with_reducible first | apply AtM1.valz | apply AtM1.val); exact rfl) | ((with_reducible apply AtM1.val); exact rfl)); (first | exact pr_indexArr (k := 0) (by rfl) (by rfl) (by rfl) (by rfl) (by decide) | exact pr_quo (by rfl) (by rfl) hW0 hq | exact pr_add (by rfl) (by rfl) hs1 | exact pr_add (by rfl) (by rfl) hs2 | exact pr_add (by rfl) (by rfl) ha1 | exact pr_add (by rfl) (by rfl) ha2 | exact pr_wne (a := A.I) (b := A.I) (by rfl) (by rfl)); exact rfl) | refine zsM ?_ | refine zxM ?_ | ((with_reducible first | apply AtM1.cr | apply AtQ.cr | apply At.cr); exact rfl; exact rfl; exact fun _ hmm => kr1 _ zml; exact ztk; kernel_rfl) | ((with_reducible first | apply AtM1.cr | apply AtQ.cr | apply At.cr); exact rfl; exact rfl; exact fun _ hmm => kr2 _ zml; exact ztk; kernel_rfl) | ((with_reducible apply At.endp); exact rfl; exact zsubs; exact zml; exact zente; (first | (simp_all; done) | (simp_all <;> omega))) | ((with_reducible apply At.box (d := 6)); exact rfl; exact rfl; exact rfl; intro b6) | ((with_reducible apply At.alloc (d := 16)); exact rfl; exact rfl; intro b16) | ((with_reducible apply At.alloc (d := 17)); exact rfl; exact rfl; intro b17) | ((with_reducible apply At.alloc (d := 19)); exact rfl; exact rfl; intro b19) | ((with_reducible apply At.alloc (d := 21)); exact rfl; exact rfl; intro b21) | ((with_reducible apply At.alloc (d := 23)); exact rfl; exact rfl; intro b23) | (refine zsp ?_ ?_ <;> (intro hc; (try simp only [zhcs, reduceCtorEq] at hc); (try (exfalso; first | (first | omega | exact absurd rfl hc | exact hc) | contradiction | omega | exact absurd rfl hc | exact absurd (by decide) hc))))))
      all_goals ((with_reducible apply At.retB1 (B := [])); exact rfl; exact rfl; exact zml; exact zkp; exact ⟨by first | rfl | (simp; done) | (simp [hrl, hlo]; done), rfl⟩)
end T8
end Go.Proofs.YtjdlnckifhifbaaGreat
