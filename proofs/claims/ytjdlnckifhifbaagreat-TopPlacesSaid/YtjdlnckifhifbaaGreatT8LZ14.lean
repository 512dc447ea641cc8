/- Part 14 of what the law's proof needs: rules of the walk, contracts of functions, plain laws. No condition. -/
import Derived.Test.YtjdlnckifhifbaaGreatT8LZ13
import Derived.Test.YtjdlnckifhifbaaGreatRows
import Derived.Laws.IdiomCopy
import Derived.Lib.Overlaps
/- The contracts of free places, the program's and the document's. -/
set_option linter.unusedSimpArgs false
set_option linter.unusedVariables false
set_option linter.unusedSectionVars false
set_option maxRecDepth 20000
set_option maxHeartbeats 4000000
namespace Go.Proofs.YtjdlnckifhifbaaGreat
open Go Go.J
attribute [local irreducible] At AtQ AtM AtM1 PR Ct Pu Rd Res.blk Res.own Res.ex Res.ch RVs RV
namespace Fr
abbrev ptr (b : Nat) : Value := .pointer (some ⟨b, 0, none⟩)
abbrev ci (x : Nat) : Value := .int .i64 (x : Int)
/-- which of so many are free -/
def tab (n : Nat) (buf : List Nat) : List Bool := (List.range n).map fun i => decide (i ∈ buf)
theorem tab_len (n : Nat) (buf : List Nat) : (tab n buf).length = n := by simp [tab]
theorem tab_get {n : Nat} {buf : List Nat} {i : Nat} (h : i < n) : (tab n buf)[i]! = decide (i ∈ buf) := by
  rw [getElem!_pos (tab n buf) i (by rw [tab_len]; exact h)]; simp [tab]
theorem tab_set {n : Nat} {buf buf' : List Nat} {i : Nat} {v : Bool} (hi : i < n) (hv : v = decide (i ∈ buf')) (h : ∀ j, j ≠ i → (j ∈ buf' ↔ j ∈ buf)) : (tab n buf).set i v = tab n buf' := by
  apply Ls.ext! (by rw [List.length_set, tab_len, tab_len])
  intro j hj
  rw [List.length_set, tab_len] at hj
  rw [tab_get hj]
  by_cases e : i = j
  · subst e
    rw [getElem!_pos _ i (by rw [List.length_set, tab_len]; exact hj), List.getElem_set_self, hv]
  · rw [getElem!_pos _ j (by rw [List.length_set, tab_len]; exact hj), List.getElem_set_ne e, ← getElem!_pos (tab n buf) j (by rw [tab_len]; exact hj), tab_get hj]
    have := h j (fun x => e x.symm)
    by_cases k : j ∈ buf
    · rw [decide_eq_true k, decide_eq_true (this.2 k)]
    · rw [decide_eq_false k, decide_eq_false fun x => k (this.1 x)]
/-- right free places: each once -/
def good (n : Nat) (buf : List Nat) : Prop := buf.Nodup ∧ ∀ x ∈ buf, x < n
theorem good.len : ∀ {n : Nat} {buf : List Nat}, good n buf → buf.length ≤ n
  | 0, buf, h => by
    cases buf with
    | nil => exact Nat.le_refl _
    | cons x b => exact absurd (h.2 x (List.mem_cons_self ..)) (Nat.not_lt_zero _)
  | n + 1, buf, h => by
    by_cases hm : n ∈ buf
    · have := good.len (n := n) (buf := buf.erase n) ⟨h.1.erase n, fun x hx => by
        have h1 := h.2 x (List.mem_of_mem_erase hx)
        have h2 : x ≠ n := fun e => by subst e; exact (List.Nodup.mem_erase_iff h.1).1 hx |>.1 rfl
        omega⟩
      rw [List.length_erase_of_mem hm] at this
      omega
    · have := good.len (n := n) (buf := buf) ⟨h.1, fun x hx => by
        have h1 := h.2 x hx
        have h2 : x ≠ n := fun e => by subst e; exact hm hx
        omega⟩
      omega
theorem good.room {n : Nat} {buf : List Nat} {p : Nat} (h : good n buf) (hp : p < n) (hn : p ∉ buf) : buf.length < n ∧ good n (buf ++ [p]) := by
  have hg : good n (buf ++ [p]) := ⟨by
    rw [List.nodup_append]
    exact ⟨h.1, by simp, fun a ha b hb e => by rw [List.mem_singleton] at hb; subst hb e; exact hn ha⟩, fun x hx => by
    rcases List.mem_append.1 hx with hx | hx
    · exact h.2 x hx
    · rw [List.mem_singleton] at hx; rw [hx]; exact hp⟩
  have := hg.len
  rw [List.length_append] at this
  exact ⟨this, hg⟩
theorem good.tail {n : Nat} {x : Nat} {buf : List Nat} (h : good n (x :: buf)) : x < n ∧ x ∉ buf ∧ good n buf :=
  ⟨h.2 x (List.mem_cons_self ..), (List.nodup_cons.1 h.1).1, (List.nodup_cons.1 h.1).2, fun y hy => h.2 y (List.mem_cons_of_mem _ hy)⟩
abbrev rr (b n : Nat) (cb : Nat) (p : Option Addr) (c : Nat) (buf : List Nat) : List Res := [.blk b 88 [.chan (some cb), .slice p n c], .ch cb n (buf.map ci), .own Ls.fO 1 4 p c (tab n buf)]
structure FS where
  (cb : Nat) (p : Option Addr) (c : Nat)
/-- free places of so many, by which are free, in order -/
def R (b n : Nat) (buf : List Nat) : Res := .ex (fun _ : FS => True) (fun s => rr b n s.cb s.p s.c buf)
theorem R.openR {m : Mem} {f : FuncId} {args : Array Value} {b n : Nat} {buf : List Nat} {V : Value} (h : ∀ s : FS, Rd Tryz.prog f args m (rr b n s.cb s.p s.c buf) V) : Rd Tryz.prog f args m [R b n buf] V :=
  Rd.openx fun s _ => by rw [List.append_nil]; exact h s
theorem R.open {m : Mem} {f : FuncId} {args : Array Value} {b n : Nat} {buf : List Nat} {Q : Value → Mem → List Res → Prop} (h : ∀ s : FS, Ct Tryz.prog f args m (rr b n s.cb s.p s.c buf) Q) : Ct Tryz.prog f args m [R b n buf] Q :=
  Ct.openx fun s _ => by rw [List.append_nil]; exact h s
theorem R.close {b n : Nat} {buf : List Nat} (cb : Nat) (p : Option Addr) (c : Nat) (Rest : List Res) : Ent (rr b n cb p c buf ++ Rest) (R b n buf :: Rest) := Ent.closex (A := fun s : FS => rr b n s.cb s.p s.c buf) ⟨cb, p, c⟩ trivial
theorem len0 {m : Mem} (b n cb : Nat) (p : Option Addr) (c : Nat) (buf : List Nat) : Rd Tryz.prog 19 #[ptr b] m (rr b n cb p c buf) (.int .i64 (buf.length : Int)) := by
  unfold Rd
  refine Ct.enterV (by rfl) Tryz.func19 rfl Tryz.ntmps19 rfl (fun w0 Rest => ?_)
  (repeat' (first | refine zss ?_ | ((first | (with_reducible first | apply At.val | apply AtQ.val)); (exact pr_len_ch (by rfl) (by rfl) (by repeat constructor)); exact rfl) | refine zsO ?_ | (refine zsp ?_ ?_ <;> (intro hc; (try simp only [zhcs, reduceCtorEq] at hc); (try (exfalso; first | contradiction | omega | exact absurd rfl hc | exact absurd (by decide) hc))))))
  all_goals ((with_reducible apply At.retB1 (B := rr b n cb p c buf)); exact rfl; exact rfl; exact zml; exact zkp; exact ⟨by rw [List.length_map], rfl, rfl⟩)
theorem len {m : Mem} (b n : Nat) (buf : List Nat) : Rd Tryz.prog 19 #[ptr b] m [R b n buf] (.int .i64 (buf.length : Int)) := R.openR fun s => len0 b n s.cb s.p s.c buf
theorem take0 {m : Mem} (b n cb : Nat) (p : Option Addr) (c : Nat) (buf : List Nat) (hg : good n buf) (hn : n ≤ 65536) :
    Ct Tryz.prog 16 #[ptr b] m (rr b n cb p c buf) (fun v m' B => v = .tuple #[.int .i64 ((buf.headD 0 : Nat) : Int), .bool (!buf.isEmpty)] ∧ m = m' ∧ B = rr b n cb p c buf.tail) := by
  cases buf with
  | nil =>
    refine Ct.enterV (by rfl) Tryz.func16 rfl Tryz.ntmps16 rfl (fun w0 Rest => ?_)
    (repeat' (first | ((with_reducible apply At.selRecv0 (z := .int .i64 0)); exact rfl; exact rfl; exact rfl; exact rfl; exact (by repeat constructor)) | refine zss ?_ | refine zsO ?_ | (refine zsp ?_ ?_ <;> (intro hc; (try simp only [zhcs, reduceCtorEq] at hc); (try (exfalso; first | contradiction | omega | exact absurd rfl hc | exact absurd (by decide) hc))))))
    all_goals ((with_reducible apply At.retB2 (B := rr b n cb p c [])); (iterate 3 exact rfl); exact zml; exact zkp; exact ⟨rfl, rfl, rfl⟩)
  | cons x buf =>
    obtain ⟨h1, h2, h3⟩ := hg.tail
    have hl := tab_len n (x :: buf)
    have hset : (tab n (x :: buf)).set x false = tab n buf := tab_set h1 (by rw [decide_eq_false h2]) (fun j hj => by rw [List.mem_cons]; exact ⟨.inr, fun e => e.resolve_left hj⟩)
    refine Ct.enterV (by rfl) Tryz.func16 rfl Tryz.ntmps16 rfl (fun w0 Rest => ?_)
    (repeat' (first | ((with_reducible apply At.selRecv1 (z := .int .i64 0) (v := ci x) (buf := buf.map ci)); exact rfl; exact rfl; exact rfl; exact rfl; exact (by repeat constructor)) | refine zss ?_ | refine zsO ?_ | ((with_reducible apply At.storeW (f := Ls.fO) (x' := false)); (case hx => exact rfl); (case hy => exact rfl); (case hv => exact rfl); (case hp => exact (by repeat constructor)); (case hr => exact rfl); (case hf => exact inferInstance); (case hk => exact zom); (case hs => exact rfl); (case hq => exact rfl); (case h1 => exact rfl)) | (refine zsp ?_ ?_ <;> (intro hc; (try simp only [zhcs, reduceCtorEq] at hc); (try (exfalso; first | contradiction | omega | exact absurd rfl hc | exact absurd (by decide) hc))))))
    all_goals ((with_reducible apply At.retV (B := [.blk b 88 [.chan (some cb), .slice p n c], .ch cb n (buf.map ci), .own Ls.fO 1 4 p c ((tab n (x :: buf)).set x false)])); exact rfl; (repeat' (first | exact RVs.nil | (with_reducible apply RVs.cons) | exact rv_tmp (by rfl) | exact rv_cellN (by rfl) (by repeat constructor) (by rfl) (by rfl) (by rfl) | exact rv_cell1 (by rfl) (by repeat constructor) (by rfl) (by rfl))); exact zml; exact zkp; exact ⟨rfl, rfl, by rw [hset]; rfl⟩)
theorem take {m : Mem} (b n : Nat) (buf : List Nat) (hg : good n buf) (hn : n ≤ 65536) :
    Ct Tryz.prog 16 #[ptr b] m [R b n buf] (fun v m' B => v = .tuple #[.int .i64 ((buf.headD 0 : Nat) : Int), .bool (!buf.isEmpty)] ∧ m = m' ∧ B = [R b n buf.tail]) :=
  R.open fun s => Ct.conv (take0 b n s.cb s.p s.c buf hg hn) fun v m' B _ ⟨h1, h2, h3⟩ => ⟨_, ⟨h1, h2, rfl⟩, fun Rest => by subst h3; exact R.close s.cb s.p s.c Rest⟩
/-- what may be given back -/
def may (n : Nat) (buf : List Nat) (q : Int) : Bool := decide (0 ≤ q ∧ q < n ∧ q.toNat ∉ buf)
def giv (n : Nat) (buf : List Nat) (q : Int) : List Nat := if may n buf q then buf ++ [q.toNat] else buf
theorem good.giv {n : Nat} {buf : List Nat} (h : good n buf) (q : Int) : good n (giv n buf q) := by
  unfold Fr.giv
  split
  · rename_i hm
    have := of_decide_eq_true hm
    exact (h.room (by omega) this.2.2).2
  · exact h
set_option maxHeartbeats 1000000 in
theorem give0 {m : Mem} (b n cb : Nat) (p : Option Addr) (c : Nat) (buf : List Nat) (q : Int) (hg : good n buf) (hn : n ≤ 65536) :
    Ct Tryz.prog 15 #[ptr b, .int .i64 q] m (rr b n cb p c buf) (fun v m' B => v = .bool (may n buf q) ∧ m = m' ∧ B = rr b n cb p c (giv n buf q)) := by
  have hl := tab_len n buf
  by_cases h1 : 0 ≤ q ∧ q < n
  · obtain ⟨k, rfl⟩ : ∃ k : Nat, q = k := ⟨q.toNat, by omega⟩
    have hk : k < n := by omega
    by_cases h2 : k ∈ buf
    · rw [show giv n buf (k : Int) = buf from if_neg (by unfold may; simp [h2]), show may n buf (k : Int) = false by unfold may; simp [h2]]
      have ht : (tab n buf)[k]! = true := by rw [tab_get hk, decide_eq_true h2]
      refine Ct.enterV (by rfl) Tryz.func15 rfl Tryz.ntmps15 rfl (fun w0 Rest => ?_)
      (repeat' (first | refine zss ?_ | refine zsO ?_ | (refine zsp ?_ ?_ <;> (intro hc; (try simp only [zhcs, reduceCtorEq] at hc); (try (exfalso; first | (first | omega | exact absurd (hc.symm.trans ht) (by decide)) | contradiction | omega | exact absurd rfl hc | exact absurd (by decide) hc))))))
      all_goals ((with_reducible apply At.retB1 (B := rr b n cb p c buf)); exact rfl; exact rfl; exact zml; exact zkp; exact ⟨rfl, rfl, rfl⟩)
    · rw [show giv n buf (k : Int) = buf ++ [k] from if_pos (by unfold may; simp [h2, hk]), show may n buf (k : Int) = true by unfold may; simp [h2, hk]]
      have ht : (tab n buf)[k]! = false := by rw [tab_get hk, decide_eq_false h2]
      have hr := (hg.room hk h2).1
      have hmp : (buf ++ [k]).map ci = buf.map ci ++ [ci k] := by simp
      have hset : (tab n buf).set k true = tab n (buf ++ [k]) := tab_set hk (by simp) (fun j hj => by simp [hj])
      refine Ct.enterV (by rfl) Tryz.func15 rfl Tryz.ntmps15 rfl (fun w0 Rest => ?_)
      (repeat' (first | ((with_reducible apply At.selSend (z := .int .i64 0) (v := ci k) (buf := buf.map ci)); exact rfl; exact rfl; exact rfl; exact rfl; exact rfl; exact (by repeat constructor); (rw [List.length_map]; omega)) | refine zss ?_ | refine zsO ?_ | ((with_reducible apply At.storeW (f := Ls.fO) (x' := true)); (case hx => exact rfl); (case hy => exact rfl); (case hv => exact rfl); (case hp => exact (by repeat constructor)); (case hr => exact rfl); (case hf => exact inferInstance); (case hk => exact zom); (case hs => exact rfl); (case hq => exact rfl); (case h1 => exact rfl)) | (refine zsp ?_ ?_ <;> (intro hc; (try simp only [zhcs, reduceCtorEq] at hc); (try (exfalso; first | (first | omega | exact absurd (hc.symm.trans ht) (by decide)) | contradiction | omega | exact absurd rfl hc | exact absurd (by decide) hc))))))
      all_goals ((with_reducible apply At.retB1 (B := [.blk b 88 [.chan (some cb), .slice p n c], .ch cb n (buf.map ci ++ [ci k]), .own Ls.fO 1 4 p c ((tab n buf).set k true)])); exact rfl; exact rfl; exact zml; exact zkp; exact ⟨rfl, rfl, by rw [hset, ← hmp]⟩)
  · rw [show giv n buf q = buf from if_neg (by unfold may; simp; omega), show may n buf q = false by unfold may; simp; omega]
    refine Ct.enterV (by rfl) Tryz.func15 rfl Tryz.ntmps15 rfl (fun w0 Rest => ?_)
    (repeat' (first | refine zss ?_ | refine zsO ?_ | (refine zsp ?_ ?_ <;> (intro hc; (try simp only [zhcs, reduceCtorEq] at hc); (try (exfalso; first | omega | contradiction | omega | exact absurd rfl hc | exact absurd (by decide) hc))))))
    all_goals ((with_reducible apply At.retB1 (B := rr b n cb p c buf)); exact rfl; exact rfl; exact zml; exact zkp; exact ⟨rfl, rfl, rfl⟩)
theorem give {m : Mem} (b n : Nat) (buf : List Nat) (q : Int) (hg : good n buf) (hn : n ≤ 65536) :
    Ct Tryz.prog 15 #[ptr b, .int .i64 q] m [R b n buf] (fun v m' B => v = .bool (may n buf q) ∧ m = m' ∧ B = [R b n (giv n buf q)]) :=
  R.open fun s => Ct.conv (give0 b n s.cb s.p s.c buf q hg hn) fun v m' B _ ⟨h1, h2, h3⟩ => ⟨_, ⟨h1, h2, rfl⟩, fun Rest => by subst h3; exact R.close s.cb s.p s.c Rest⟩
theorem good_range {n k : Nat} (h : k ≤ n) : good n (List.range k) := ⟨List.nodup_range, fun x hx => by have := List.mem_range.1 hx; omega⟩
theorem tab_nil (n : Nat) : List.replicate n false = tab n [] := by
  apply Ls.ext! (by rw [List.length_replicate, tab_len])
  intro i hi
  rw [List.length_replicate] at hi
  rw [tab_get hi, getElem!_pos _ i (by rw [List.length_replicate]; exact hi)]
  simp
theorem newBad {m : Mem} (q : Int) (h : q < 1 ∨ 65536 < q) : Ct Tryz.prog 11 #[.int .i64 q] m [] (fun v m' B => v = .tuple #[.pointer none, .int .i64 1] ∧ m = m' ∧ B = []) := by
  refine Ct.enterV (by rfl) Tryz.func11 rfl Tryz.ntmps11 rfl (fun w0 Rest => ?_)
  (repeat' (first | refine zss ?_ | refine zsO ?_ | ((with_reducible apply At.box (d := 17)); exact rfl; exact rfl; exact rfl; intro b17) | (refine zsp ?_ ?_ <;> (intro hc; (try simp only [zhcs, reduceCtorEq] at hc); (try (exfalso; first | omega | contradiction | omega | exact absurd rfl hc | exact absurd (by decide) hc))))))
  all_goals ((with_reducible apply At.retB2 (B := [])); (iterate 3 exact rfl); exact zml; exact zkp; exact ⟨rfl, rfl, rfl⟩)
theorem new {m : Mem} (n : Nat) (h1 : 1 ≤ n) (hn : n ≤ 65536) : Ct Tryz.prog 11 #[.int .i64 (n : Int)] m [] (fun v m' B => m = m' ∧ ∃ b, v = .tuple #[ptr b, .int .i64 0] ∧ B = [R b n (List.range n)]) := by
  have hgv := fun (m : Mem) b (k : Nat) (h : k < n) => give (m := m) b n (List.range k) (k : Int) (good_range (by omega)) hn
  have hgv2 : ∀ (m : Mem) b (k : Nat) (h : k < n), Ct Tryz.prog 15 #[ptr b, .int .i64 (k : Int)] m [R b n (List.range k)] (fun v m' B => v = .bool true ∧ m = m' ∧ B = [R b n (List.range (k + 1))]) := fun m b k h => by
    have e1 : may n (List.range k) (k : Int) = true := by unfold may; simp [h]
    have := hgv m b k h
    rw [e1, show giv n (List.range k) (k : Int) = List.range (k + 1) by unfold giv; rw [if_pos e1, List.range_succ]; rfl] at this
    exact this
  refine Ct.enterV (by rfl) Tryz.func11 rfl Tryz.ntmps11 rfl (fun w0 Rest => ?_)
  (repeat' (first | ((with_reducible apply At.mixed (id := 3) 7 (.q 0 (.q 2 (.b 1 3 (.l 3 (.q 4 (.x 5 (.q 6 .done)))) (.l 1 (.q 4 (.x 5 (.q 6 .done)))))))); exact rfl; kernel_rfl; kernel_rfl; kernel_rfl) | refine zsx ?_ | refine zss ?_ | ((with_reducible apply AtM.bo); exact rfl; exact rfl; exact rfl) | refine zsO ?_ | refine zxO ?_ | ((with_reducible apply At.makeChan (k := n)); exact rfl; exact rfl; omega; exact rfl; intro cb) | ((with_reducible apply At.makeN (f := Ls.fO) (false)); exact inferInstance; (iterate 5 exact rfl); exact zlq; exact rfl; exact zom; exact rfl; intro b8) | ((with_reducible apply At.box (d := 17)); exact rfl; exact rfl; exact rfl; intro b17) | (refine zsp ?_ ?_ <;> (intro hc; (try simp only [zhcs, reduceCtorEq] at hc); (try (exfalso; first | omega | contradiction | omega | exact absurd rfl hc | exact absurd (by decide) hc))))))
  all_goals rw [tab_nil n]
  all_goals refine At.ent ((Take.eqv (A := rr b17 n cb (some ⟨b8, 0, none⟩) n []) (Y := Rest) (by exact ztk)).ent.trans (R.close (n := n) (buf := []) cb _ _ Rest)) ?_
  all_goals
    (refine At.loopk (σ := Nat) [4, 18] (fun s F0 => (19, .int .i64 (s : Int)) :: F0) (fun s => m) (fun s => R b17 n (List.range s) :: Rest) (fun s => s ≤ n) (fun s => n - s) 0 (by rfl) ?_ zsubs zml zente ?_)
    · exact Nat.zero_le _
    rintro s hs
    by_cases h : s < n
    · (repeat' (first | refine zss ?_ | refine zsO ?_ | ((with_reducible first | apply At.c1 | apply At.c0); exact rfl; exact rfl; exact hgv2 _ b17 s h; exact ztk; kernel_rfl; rintro v' m' B' hm' ⟨rfl, rfl, rfl⟩; skip; (try (have hq0 : hm' = Mem.le_refl _ := rfl; clear hq0 hm'))) | ((with_reducible apply At.box (d := 17)); exact rfl; exact rfl; exact rfl; intro b17) | (refine zsp ?_ ?_ <;> (intro hc; (try simp only [zhcs, reduceCtorEq] at hc); (try (exfalso; first | omega | contradiction | omega | exact absurd rfl hc | exact absurd (by decide) hc))))))
      all_goals ((with_reducible refine At.reachk ((s + 1)) ?_ ?_ ?_ ?_); exact zsubs; exact zml; exact zente; exact ⟨h, by omega⟩)
    · obtain rfl : s = n := by omega
      (repeat' (first | refine zss ?_ | refine zsO ?_ | ((with_reducible apply At.box (d := 17)); exact rfl; exact rfl; exact rfl; intro b17) | (refine zsp ?_ ?_ <;> (intro hc; (try simp only [zhcs, reduceCtorEq] at hc); (try (exfalso; first | omega | contradiction | omega | exact absurd rfl hc | exact absurd (by decide) hc))))))
      all_goals ((with_reducible apply At.retB2 (B := [R b17 s (List.range s)])); (iterate 3 exact rfl); exact zml; exact zkp; exact ⟨rfl, _, rfl, rfl⟩)
/-! ### the document's -/
abbrev fcs (n : Nat) (p : Option Addr) (k c : Nat) : List Value := [.int .i64 (n : Int), .slice p k c]
abbrev fv (n : Int) (p : Option Addr) (k c : Nat) : Value := .agg #[.int .i64 n, .slice p k c]
abbrev ints (buf : List Nat) : List Int := buf.map fun (x : Nat) => (x : Int)
abbrev owI (p : Option Addr) (c : Nat) (l : List Int) : Res := .own Ls.fI 1 3 p c l
def PostF (n : Nat) (buf : List Nat) (k : Value → Value) : Value → Mem → List Res → Prop := fun v m' B => B = [] ∧ ∃ p c, v = k (fv n p buf.length c) ∧ Sl m' Ls.fI 1 p c (ints buf)
structure NF where
  (j : Nat) (p : Option Addr) (c : Nat)
end Fr
end Go.Proofs.YtjdlnckifhifbaaGreat
/- The laws of series: what they ask first; events put to a new series. -/
set_option linter.unusedSimpArgs false
set_option linter.unusedVariables false
set_option linter.unusedSectionVars false
set_option maxRecDepth 20000
set_option maxHeartbeats 4000000
namespace Go.Proofs.YtjdlnckifhifbaaGreat
open Go Go.J
attribute [local irreducible] At AtQ AtM AtM1 PR Ct Pu Rd Res.blk Res.own Res.ex RVs RV
namespace T8
open Slot Ti Gr Se Sv
open Fo hiding pt
abbrev la : List Lab := [⟨[97], []⟩]
theorem la_right : Lb.right la := by decide
theorem la_few : Lb.few la := by
  refine ⟨by decide, fun i hi => ?_⟩
  have : i = 0 := by simp at hi; omega
  subst this
  exact ⟨by decide, by decide⟩
theorem la_mid : Lb.Mid la := la_few.mid
structure PS where
  (k : Nat) (m : Mem) (x : Ser)
theorem put8 {m : Mem} (K : Cfg) (p : Option Addr) (c : Nat) (l : List Ev) (hK : K.ok) (hG : Gr.Good l) (hl : l.length ≤ 1000000) (sl0 : Sl m Ev.cells 4 p c l) :
    Ct Tryz.prog 8 #[K.v, .slice p l.length c] m [] (fun v m' B => B = [] ∧ ∃ x : Ser, v = .tuple #[x.v, .bool true] ∧ x.Ok m' ∧ SI K l x ∧ x.lab.l = la) := by
  have k0 := fun (m : Mem) p c sl => new_ (m := m) K p c la hK la_right la_mid sl
  refine Ct.enterV (by rfl) Tryz.func8 rfl Tryz.ntmps8 rfl (fun w0 Rest => ?_)
  (repeat' (first | refine zss ?_ | refine zsM ?_ | ((with_reducible apply At.litF Lb.cells la); exact inferInstance; (iterate 7 exact rfl); intro b' m' hm' sl2; (try replace sl0 := sl0.mono hm')) | ((with_reducible first | apply At.c1 | apply At.c0); exact rfl; exact rfl; exact k0 _ _ _ sl2; exact ztk; kernel_rfl; rintro v' m' B' hm' ⟨rfl, x0, rfl, hx, hI, hlab⟩; (try replace sl0 := sl0.mono hm'); (try replace sl2 := sl2.mono hm'); (try (have hq0 : hm' = Mem.le_refl _ := rfl; clear hq0 hm'))) | ((with_reducible apply At.box (d := 2)); exact rfl; exact rfl; exact rfl; intro b2) | ((with_reducible apply At.alloc (d := 4)); exact rfl; exact rfl; intro b4) | ((with_reducible apply At.alloc (d := 6)); exact rfl; exact rfl; intro b6) | ((with_reducible apply At.alloc (d := 9)); exact rfl; exact rfl; intro b9) | ((with_reducible apply At.alloc (d := 10)); exact rfl; exact rfl; intro b10) | (refine zsp ?_ ?_ <;> (intro hc; (try simp only [zhcs, reduceCtorEq] at hc); (try (exfalso; first | omega | contradiction | omega | exact absurd rfl hc | exact absurd (by decide) hc))))))
  rw [show ([] : List Ev) = l.take 0 from rfl] at hI
  change At _ w0 _ m' (Res.blk b6 44 x0.cells :: Res.blk b4 44 (Ser.cells Ser.z) :: Res.blk b2 25 K.cells :: Rest) _
  (refine At.loopk (σ := PS) [2, 4, 6, 22, 23] (fun s F0 => (24, .int .i64 (s.k : Int)) :: F0) (fun s => s.m) (fun s => .blk b6 44 s.x.cells :: .blk b4 44 (Ser.cells Ser.z) :: .blk b2 25 K.cells :: Rest) (fun s => m'.le s.m ∧ s.k ≤ l.length ∧ s.x.Ok s.m ∧ SI K (l.take s.k) s.x ∧ s.x.lab.l = la) (fun s => l.length - s.k) ⟨0, m', x0⟩ (by rfl) ?_ zsubs zml zente ?_)
  · exact ⟨Mem.le_refl _, Nat.zero_le _, hx, hI, hlab⟩
  clear hx hI hlab k0
  rintro ⟨k, m1, x⟩ ⟨hm1, hk, hx, hI, hlab⟩
  dsimp only at hm1 hk hx hI hlab ⊢
  replace sl0 := sl0.mono hm1
  by_cases hkl : k < l.length
  rotate_left
  · rw [List.take_of_length_le (by omega)] at hI
    (repeat' (first | refine zss ?_ | refine zsM ?_ | ((with_reducible apply At.box (d := 2)); exact rfl; exact rfl; exact rfl; intro b2) | ((with_reducible apply At.alloc (d := 4)); exact rfl; exact rfl; intro b4) | ((with_reducible apply At.alloc (d := 6)); exact rfl; exact rfl; intro b6) | ((with_reducible apply At.alloc (d := 9)); exact rfl; exact rfl; intro b9) | ((with_reducible apply At.alloc (d := 10)); exact rfl; exact rfl; intro b10) | (refine zsp ?_ ?_ <;> (intro hc; (try simp only [zhcs, reduceCtorEq] at hc); (try (exfalso; first | omega | contradiction | omega | exact absurd rfl hc | exact absurd (by decide) hc))))))
    all_goals ((with_reducible apply At.retV (B := [])); exact rfl; (repeat' (first | exact RVs.nil | (with_reducible apply RVs.cons) | exact rv_tmp (by rfl) | exact rv_cellN (by rfl) (by repeat constructor) (by rfl) (by rfl) (by rfl) | exact rv_cell1 (by rfl) (by repeat constructor) (by rfl) (by rfl))); exact zml; exact zkp; exact ⟨rfl, x, rfl, hx.mono zml, hI, hlab⟩)
  have hsn := Ls.take_snoc hkl
  have hGe : Gr.Good (l.take k ++ [l[k]!]) := by rw [← hsn]; exact hG.sub (List.take_sublist _ _)
  have k1 := fun (m' : Mem) (h : m1.le m') => put_ (m := m') K x (l.take k) l[k]! hI (hx.mono h) hGe (by rw [List.length_take]; omega)
  rw [← hsn] at k1
  clear hGe hsn hI hx hK hG
  (repeat' (first | refine zss ?_ | refine zsM ?_ | ((with_reducible first | apply At.c1 | apply At.c0); exact rfl; exact rfl; exact k1 _ zml; exact ztk; kernel_rfl; rintro v' m' B' hm' ⟨rfl, y, rfl, hy, hyI, hyl⟩; (try replace sl0 := sl0.mono hm'); (try replace sl2 := sl2.mono hm'); (try (have hq0 : hm' = Mem.le_refl _ := rfl; clear hq0 hm'))) | ((with_reducible apply At.box (d := 2)); exact rfl; exact rfl; exact rfl; intro b2) | ((with_reducible apply At.alloc (d := 4)); exact rfl; exact rfl; intro b4) | ((with_reducible apply At.alloc (d := 6)); exact rfl; exact rfl; intro b6) | ((with_reducible apply At.alloc (d := 9)); exact rfl; exact rfl; intro b9) | ((with_reducible apply At.alloc (d := 10)); exact rfl; exact rfl; intro b10) | (refine zsp ?_ ?_ <;> (intro hc; (try simp only [zhcs, reduceCtorEq] at hc); (try (exfalso; first | omega | contradiction | omega | exact absurd rfl hc | exact absurd (by decide) hc))))))
  all_goals ((with_reducible refine At.reachk ((⟨k + 1, m', y⟩ : PS)) ?_ ?_ ?_ ?_); exact zsubs; exact zml; exact zente; exact ⟨⟨zml, hkl, hy, hyI, by rw [hyl]; exact hlab⟩, by show l.length - (k + 1) < l.length - k; omega⟩)
/-- what fits -/
def ft (K : Cfg) (l : List Ev) : Prop := K.ok ∧ (K.x ≤ 40 ∧ K.y ≤ 40 ∧ K.w ≤ 40) ∧ l.length ≤ 60 ∧ Mrg.chk l = 0
instance (K : Cfg) (l : List Ev) : Decidable (ft K l) := by unfold ft; infer_instance
theorem sm_iff {K : Cfg} {x : Ser} (h : SI K [] x) (hl : x.lab.l = la) : x.sm ↔ K.x ≤ 40 ∧ K.y ≤ 40 ∧ K.w ≤ 40 := by
  have h1 := h.inv.a.len
  have h2 := h.inv.b.len
  have h3 := h.inv.c.len
  have h4 : x.raw.l.length ≤ 60 := by have := h.raw.le; exact Nat.le_trans this (by decide)
  change (x.t0.l.length : Int) = _ at h1
  change (x.t1.l.length : Int) = _ at h2
  change (x.t2.l.length : Int) = _ at h3
  unfold Ser.sm
  rw [hl]
  constructor
  · rintro ⟨-, -, g1, g2, g3⟩
    omega
  · rintro ⟨g1, g2, g3⟩
    exact ⟨la_few, h4, by omega, by omega, by omega⟩
theorem fits8 {m : Mem} (K : Cfg) (p : Option Addr) (c : Nat) (l : List Ev) (hV : ∀ e ∈ l, e.V < 18446744073709551616) (sl0 : Sl m Ev.cells 4 p c l) :
    Rd Tryz.prog 7 #[K.v, .slice p l.length c] m [] (.bool (decide (ft K l))) := rd_le (by
  by_cases hK : K.ok
  rotate_left
  · rw [decide_eq_false (fun h => hK h.1)]
    have k0 := fun (m : Mem) p c sl => newN (m := m) K p c la (fun h => hK h.1) la_mid sl
    refine Ct.enterV (by rfl) Tryz.func7 rfl Tryz.ntmps7 rfl (fun w0 Rest => ?_)
    (repeat' (first | refine zss ?_ | refine zsM ?_ | ((with_reducible apply At.litF Lb.cells la); exact inferInstance; (iterate 7 exact rfl); intro b' m' hm' sl2; (try replace sl0 := sl0.mono hm')) | ((with_reducible first | apply At.c1 | apply At.c0); exact rfl; exact rfl; exact k0 _ _ _ sl2; exact ztk; kernel_rfl; rintro v' m' B' hm' ⟨rfl, w, rfl, hw⟩; (try replace sl0 := sl0.mono hm'); (try replace sl2 := sl2.mono hm'); (try (have hq0 : hm' = Mem.le_refl _ := rfl; clear hq0 hm'))) | ((with_reducible apply At.box (d := 2)); exact rfl; exact rfl; exact rfl; intro b2) | ((with_reducible apply At.alloc (d := 5)); exact rfl; exact rfl; intro b5) | ((with_reducible apply At.alloc (d := 7)); exact rfl; exact rfl; intro b7) | (refine zsp ?_ ?_ <;> (intro hc; (try simp only [zhcs, reduceCtorEq] at hc); (try (exfalso; first | (first | omega | exact absurd hc hw | exact hc hw) | contradiction | omega | exact absurd rfl hc | exact absurd (by decide) hc))))))
    all_goals ((with_reducible apply At.retB1 (B := [])); exact rfl; exact rfl; exact zml; exact zkp; exact ⟨rfl, zml, rfl⟩)
  have k0 := fun (m : Mem) p c sl => new_ (m := m) K p c la hK la_right la_mid sl
  have k1 := fun (m : Mem) (x : Ser) (hx : x.Ok m) => St.small15 (m := m) x hx.lay
  unfold St.smI at k1
  by_cases h1 : K.x ≤ 40 ∧ K.y ≤ 40 ∧ K.w ≤ 40
  rotate_left
  · rw [decide_eq_false (fun h => h1 h.2.1)]
    replace k1 : ∀ (m : Mem) (x : Ser), x.Ok m → (SI K [] x ∧ x.lab.l = la) → Rd _ _ _ _ _ (.int .i64 0) := fun m x hx hI => by
      have := k1 m x hx
      rw [if_neg (fun h => h1 ((sm_iff hI.1 hI.2).1 h))] at this
      exact this
    refine Ct.enterV (by rfl) Tryz.func7 rfl Tryz.ntmps7 rfl (fun w0 Rest => ?_)
    (repeat' (first | refine zss ?_ | refine zsM ?_ | ((with_reducible apply At.litF Lb.cells la); exact inferInstance; (iterate 7 exact rfl); intro b' m' hm' sl2; (try replace sl0 := sl0.mono hm')) | ((with_reducible first | apply At.c1 | apply At.c0); exact rfl; exact rfl; exact k0 _ _ _ sl2; exact ztk; kernel_rfl; rintro v' m' B' hm' ⟨rfl, x, rfl, hx, hI, hlab⟩; (try replace sl0 := sl0.mono hm'); (try replace sl2 := sl2.mono hm'); (try (have hq0 : hm' = Mem.le_refl _ := rfl; clear hq0 hm'))) | ((with_reducible first | apply AtM1.cr | apply AtQ.cr | apply At.cr); exact rfl; exact rfl; exact fun _ hmm => k1 _ x (hx.mono hmm) ⟨hI, hlab⟩; exact ztk; kernel_rfl) | ((with_reducible apply At.box (d := 2)); exact rfl; exact rfl; exact rfl; intro b2) | ((with_reducible apply At.alloc (d := 5)); exact rfl; exact rfl; intro b5) | ((with_reducible apply At.alloc (d := 7)); exact rfl; exact rfl; intro b7) | (refine zsp ?_ ?_ <;> (intro hc; (try simp only [zhcs, reduceCtorEq] at hc); (try (exfalso; first | (first | omega | exact absurd rfl hc) | contradiction | omega | exact absurd rfl hc | exact absurd (by decide) hc))))))
    all_goals ((with_reducible apply At.retB1 (B := [])); exact rfl; exact rfl; exact zml; exact zkp; exact ⟨rfl, zml, rfl⟩)
  replace k1 : ∀ (m : Mem) (x : Ser), x.Ok m → (SI K [] x ∧ x.lab.l = la) → Rd _ _ _ _ _ (.int .i64 1) := fun m x hx hI => by
    have := k1 m x hx
    rw [if_pos ((sm_iff hI.1 hI.2).2 h1)] at this
    exact this
  by_cases h2 : l.length ≤ 60
  rotate_left
  · rw [decide_eq_false (fun h => h2 h.2.2.1)]
    refine Ct.enterV (by rfl) Tryz.func7 rfl Tryz.ntmps7 rfl (fun w0 Rest => ?_)
    (repeat' (first | refine zss ?_ | refine zsM ?_ | ((with_reducible apply At.litF Lb.cells la); exact inferInstance; (iterate 7 exact rfl); intro b' m' hm' sl2; (try replace sl0 := sl0.mono hm')) | ((with_reducible first | apply At.c1 | apply At.c0); exact rfl; exact rfl; exact k0 _ _ _ sl2; exact ztk; kernel_rfl; rintro v' m' B' hm' ⟨rfl, x, rfl, hx, hI, hlab⟩; (try replace sl0 := sl0.mono hm'); (try replace sl2 := sl2.mono hm'); (try (have hq0 : hm' = Mem.le_refl _ := rfl; clear hq0 hm'))) | ((with_reducible first | apply AtM1.cr | apply AtQ.cr | apply At.cr); exact rfl; exact rfl; exact fun _ hmm => k1 _ x (hx.mono hmm) ⟨hI, hlab⟩; exact ztk; kernel_rfl) | ((with_reducible apply At.box (d := 2)); exact rfl; exact rfl; exact rfl; intro b2) | ((with_reducible apply At.alloc (d := 5)); exact rfl; exact rfl; intro b5) | ((with_reducible apply At.alloc (d := 7)); exact rfl; exact rfl; intro b7) | (refine zsp ?_ ?_ <;> (intro hc; (try simp only [zhcs, reduceCtorEq] at hc); (try (exfalso; first | (first | omega | exact absurd rfl hc) | contradiction | omega | exact absurd rfl hc | exact absurd (by decide) hc))))))
    all_goals ((with_reducible apply At.retB1 (B := [])); exact rfl; exact rfl; exact zml; exact zkp; exact ⟨rfl, zml, rfl⟩)
  rw [show decide (ft K l) = decide (Mrg.chk l = 0) from decide_eq_decide.2 ⟨fun h => h.2.2.2, fun h => ⟨hK, h1, h2, h⟩⟩]
  have kf := fun (m' : Mem) (h : m.le m') => Cell.of_ (m := m') p c l (by omega) hV (sl0.mono h)
  have e4 : ∃ x, Cell.ofL l = (x, Mrg.chk l) := by
    unfold Cell.ofL
    by_cases h : Mrg.chk l = 0
    · exact ⟨_, (if_neg (fun k => k h)).trans (by rw [h])⟩
    · exact ⟨_, if_pos h⟩
  obtain ⟨y, e4⟩ := e4
  rw [e4] at kf
  clear e4 hV
  generalize Mrg.chk l = w at *
  refine Ct.enterV (by rfl) Tryz.func7 rfl Tryz.ntmps7 rfl (fun w0 Rest => ?_)
  (repeat' (first | refine zss ?_ | refine zsM ?_ | ((with_reducible apply At.litF Lb.cells la); exact inferInstance; (iterate 7 exact rfl); intro b' m' hm' sl2; (try replace sl0 := sl0.mono hm')) | ((with_reducible first | apply At.c1 | apply At.c0); exact rfl; exact rfl; exact k0 _ _ _ sl2; exact ztk; kernel_rfl; rintro v' m' B' hm' ⟨rfl, x, rfl, hx, hI, hlab⟩; (try replace sl0 := sl0.mono hm'); (try replace sl2 := sl2.mono hm'); (try (have hq0 : hm' = Mem.le_refl _ := rfl; clear hq0 hm'))) | ((with_reducible first | apply AtM1.cr | apply AtQ.cr | apply At.cr); exact rfl; exact rfl; exact fun _ hmm => k1 _ x (hx.mono hmm) ⟨hI, hlab⟩; exact ztk; kernel_rfl) | ((with_reducible first | apply At.c1 | apply At.c0); exact rfl; exact rfl; exact kf _ zml; exact ztk; kernel_rfl; rintro v' m' B' hm' ⟨rfl, rfl, rfl⟩; (try replace sl0 := sl0.mono hm'); (try replace sl2 := sl2.mono hm'); (try (have hq0 : hm' = Mem.le_refl _ := rfl; clear hq0 hm'))) | ((with_reducible apply At.box (d := 2)); exact rfl; exact rfl; exact rfl; intro b2) | ((with_reducible apply At.alloc (d := 5)); exact rfl; exact rfl; intro b5) | ((with_reducible apply At.alloc (d := 7)); exact rfl; exact rfl; intro b7) | (refine zsp ?_ ?_ <;> (intro hc; (try simp only [zhcs, reduceCtorEq] at hc); (try (exfalso; first | (first | omega | exact absurd rfl hc) | contradiction | omega | exact absurd rfl hc | exact absurd (by decide) hc))))))
  all_goals ((with_reducible apply At.retB1 (B := [])); exact rfl; exact rfl; exact zml; exact zkp; exact ⟨rfl, zml, rfl⟩))
abbrev K0 : Cfg := ⟨20, 10, 20, 60, 4, 5, 6, 3, 9⟩
abbrev e5 : Ev := ⟨5, 1, 0, false⟩
theorem good5 : Gr.Good ([] ++ [e5]) := ⟨fun e he => by rw [List.mem_singleton.1 he]; exact ⟨by decide, by decide⟩, List.pairwise_singleton _ _⟩
theorem g5 : G 60 [e5] 0 = Cell.one e5 := by decide
theorem fit5 : Pu Tryz.prog 21 #[] K0.v := Conf.fit
set_option maxRecDepth 100000 in
theorem begins8 {m : Mem} : Rd Tryz.prog 6 #[] m [] (.bool true) := rd_le (by
  have k0 := fun (m : Mem) p c sl => new_ (m := m) K0 p c la Conf.fit_ok la_right la_mid sl
  have k1 := fun (m : Mem) (x : Ser) (hx : x.Ok m) (hI : SI K0 [] x) => put_ (m := m) K0 x [] e5 hI hx good5 (by decide)
  have k2 := fun (m : Mem) (x : Ser) (hx : x.Ok m) (hI : SI K0 [e5] x) => cell2 (m := m) K0 x [e5] 0 hI hx (by decide) (by decide)
  rw [g5] at k2
  have kl : ∀ x : Ser, SI K0 [e5] x → x.last = 5 := fun x hI => hI.last
  have k3 := fun (m : Mem) => Fr.new (m := m) 2 (by decide) (by decide)
  have k4 := fun (m : Mem) b => Fr.len (m := m) b 2 (List.range 2)
  refine Ct.enterV (by rfl) Tryz.func6 rfl Tryz.ntmps6 rfl (fun w0 Rest => ?_)
  (repeat' (first | refine zss ?_ | refine zsM ?_ | ((with_reducible apply At.litF Lb.cells la); exact inferInstance; (iterate 7 exact rfl); intro b' m' hm' sl2; skip) | ((with_reducible first | apply AtM1.callp | apply AtQ.callp | apply At.callp); kernel_rfl; exact rfl; exact rfl; exact fit5) | ((with_reducible first | apply At.c1 | apply At.c0); exact rfl; exact rfl; exact k0 _ _ _ sl2; exact ztk; kernel_rfl; rintro v' m' B' hm' ⟨rfl, x, rfl, hx, hI, hlab⟩; (try replace sl2 := sl2.mono hm'); (try (have hq0 : hm' = Mem.le_refl _ := rfl; clear hq0 hm'))) | ((with_reducible first | apply At.c1 | apply At.c0); exact rfl; exact rfl; exact k1 _ x (hx.mono zml) hI; exact ztk; kernel_rfl; rintro v' m' B' hm' ⟨rfl, y, rfl, hy, hyI, hyl⟩; (try replace sl2 := sl2.mono hm'); (try (have hq0 : hm' = Mem.le_refl _ := rfl; clear hq0 hm'))) | ((with_reducible first | apply AtM1.cr | apply AtQ.cr | apply At.cr); exact rfl; exact rfl; exact fun _ hmm => k2 _ y (hy.mono hmm) hyI; exact ztk; kernel_rfl) | ((with_reducible first | apply At.c1 | apply At.c0); exact rfl; exact rfl; exact k3 _; exact ztk; kernel_rfl; rintro v' m' B' hm' ⟨rfl, bf, rfl, rfl⟩; (try replace sl2 := sl2.mono hm'); (try (have hq0 : hm' = Mem.le_refl _ := rfl; clear hq0 hm'))) | ((with_reducible first | apply AtM1.cr | apply AtQ.cr | apply At.cr); exact rfl; exact rfl; exact fun _ hmm => k4 _ bf; exact ztk; kernel_rfl) | ((with_reducible apply At.alloc (d := 1)); exact rfl; exact rfl; intro b1) | ((with_reducible apply At.alloc (d := 2)); exact rfl; exact rfl; intro b2) | ((with_reducible apply At.alloc (d := 5)); exact rfl; exact rfl; intro b5) | (refine zsp ?_ ?_ <;> (intro hc; (try simp only [zhcs, reduceCtorEq] at hc); (try (exfalso; first | (first | omega | (have := kl y hyI; omega) | exact absurd rfl hc) | contradiction | omega | exact absurd rfl hc | exact absurd (by decide) hc))))))
  all_goals ((with_reducible apply At.retV (B := [])); exact rfl; (repeat' (first | exact RVs.nil | (with_reducible apply RVs.cons) | exact rv_tmp (by rfl) | exact rv_cellN (by rfl) (by repeat constructor) (by rfl) (by rfl) (by rfl) | exact rv_cell1 (by rfl) (by repeat constructor) (by rfl) (by rfl))); exact zml; exact zkp; exact ⟨rfl, zml, rfl⟩))
end T8
end Go.Proofs.YtjdlnckifhifbaaGreat
/- Names with places, in order (plain): where a name stands, what is put, dropped and found. -/
set_option linter.unusedSimpArgs false
set_option linter.unusedVariables false
set_option linter.unusedSectionVars false
set_option maxRecDepth 20000
set_option maxHeartbeats 4000000
namespace Go.Proofs.YtjdlnckifhifbaaGreat
open Go Go.J
/-- a name with a place -/
structure Nmd where
  (s : List UInt8) (p : Int)
deriving DecidableEq, Inhabited
abbrev Nmd.v (x : Nmd) : Value := .agg #[.string (str x.s), .int .i64 x.p]
namespace Nm
abbrev cells : Nmd → List Value := fun x => [.string (str x.s), .int .i64 x.p]
instance : Fl cells 2 := ⟨fun _ => rfl, fun _ v h => by simp at h; rcases h with rfl | rfl <;> rfl, by decide⟩
def srt (l : List Nmd) : Prop := ∀ i j, i < j → j < l.length → ltB (l[i]!).s (l[j]!).s = true
def cmpS (a b : List UInt8) : Int := if ltB a b = true then -1 else if ltB b a = true then 1 else 0
def pos (l : List Nmd) (t : List UInt8) : Nat := (l.takeWhile fun x => ltB x.s t).length
def has (l : List Nmd) (t : List UInt8) : Bool := l.any fun x => decide (x.s = t)
theorem cmpS_lt {a b : List UInt8} (h : ltB a b = true) : cmpS a b = -1 := if_pos h
theorem cmpS_eq (a : List UInt8) : cmpS a a = 0 := by unfold cmpS; simp [ltB_irrefl]
theorem cmpS_ge {a b : List UInt8} (h : ltB a b = false) : 0 ≤ cmpS a b := by unfold cmpS; rw [h]; simp; split <;> decide
theorem cmpS_ne {a b : List UInt8} (h : a ≠ b) : cmpS a b ≠ 0 := by
  unfold cmpS
  rcases ltB_tri a b with k | k | k
  · rw [if_pos k]; decide
  · exact absurd k h
  · rw [if_neg (by rw [ltB_asymm k]; decide), if_pos k]; decide
theorem pos_eq {l : List Nmd} {t : List UInt8} {i : Nat} (hi : i ≤ l.length) (h1 : ∀ k, k < i → ltB (l[k]!).s t = true) (h2 : i < l.length → ltB (l[i]!).s t = false) : pos l t = i := by
  induction l generalizing i with
  | nil => simp only [List.length_nil] at hi; have : i = 0 := by omega
           subst this; rfl
  | cons x l ih =>
    cases i with
    | zero =>
      have := h2 (by simp)
      show (List.takeWhile (fun x => ltB x.s t) (x :: l)).length = 0
      rw [List.takeWhile_cons, if_neg (by simpa using this)]; rfl
    | succ i =>
      have h0 := h1 0 (by omega)
      show (List.takeWhile (fun x => ltB x.s t) (x :: l)).length = i + 1
      rw [List.takeWhile_cons, if_pos (by simpa using h0), List.length_cons]
      congr 1
      exact ih (by simpa using hi) (fun k hk => by simpa using h1 (k + 1) (by omega)) (fun hl => by simpa using h2 (by simpa using hl))
theorem pos_le (l : List Nmd) (t : List UInt8) : pos l t ≤ l.length := by
  unfold pos; exact (List.takeWhile_prefix _).length_le
theorem pos_lt {l : List Nmd} {t : List UInt8} {k : Nat} (h : k < pos l t) : ltB (l[k]!).s t = true := by
  induction l generalizing k with
  | nil => cases h
  | cons x l ih =>
    unfold pos at h
    rw [List.takeWhile_cons] at h
    split at h
    · rename_i hx
      cases k with
      | zero => simpa using hx
      | succ k => simpa using ih (k := k) (by simpa [pos] using h)
    · simp at h
theorem pos_ge {l : List Nmd} {t : List UInt8} (h : pos l t < l.length) : ltB (l[pos l t]!).s t = false := by
  induction l with
  | nil => cases h
  | cons x l ih =>
    unfold pos at h ⊢
    rw [List.takeWhile_cons] at h ⊢
    split
    · rename_i hx
      rw [if_pos hx] at h
      have := ih (by simpa [pos] using h)
      simpa [pos] using this
    · rename_i hx
      simpa using hx
theorem srt_lt {l : List Nmd} (h : srt l) {i j : Nat} (hj : j < l.length) (hij : ltB (l[i]!).s (l[j]!).s = true) (hi : i < l.length) : i < j := by
  rcases Nat.lt_trichotomy i j with k | k | k
  · exact k
  · subst k; rw [ltB_irrefl] at hij; cases hij
  · have := ltB_trans (h j i k hi) hij; rw [ltB_irrefl] at this; cases this
theorem has_iff {l : List Nmd} {t : List UInt8} : has l t = true ↔ ∃ i, i < l.length ∧ (l[i]!).s = t := by
  unfold has
  rw [List.any_eq_true]
  constructor
  · rintro ⟨x, hx, h⟩
    obtain ⟨i, hi, rfl⟩ := List.mem_iff_getElem.1 hx
    exact ⟨i, hi, by rw [getElem!_pos l i hi]; exact of_decide_eq_true h⟩
  · rintro ⟨i, hi, h⟩
    exact ⟨l[i]!, Ls.mem! hi, decide_eq_true h⟩
/-- where it stands, if it does -/
theorem at_has {l : List Nmd} (hs : srt l) {t : List UInt8} {i : Nat} (hi : i < l.length) (h : (l[i]!).s = t) : pos l t = i :=
  pos_eq (Nat.le_of_lt hi) (fun k hk => by rw [← h]; exact hs k i hk hi) (fun _ => by rw [h]; exact ltB_irrefl t)
theorem has_pos {l : List Nmd} (hs : srt l) (t : List UInt8) : has l t = decide (pos l t < l.length ∧ (l[pos l t]!).s = t) := by
  cases h : has l t with
  | true =>
    obtain ⟨i, hi, e⟩ := has_iff.1 h
    rw [at_has hs hi e, decide_eq_true ⟨hi, e⟩]
  | false =>
    symm; refine decide_eq_false fun ⟨h1, h2⟩ => ?_
    rw [has_iff.2 ⟨_, h1, h2⟩] at h; cases h
/-- what is put -/
def ins (l : List Nmd) (x : Nmd) : List Nmd := l.take (pos l x.s) ++ [x] ++ l.drop (pos l x.s)
def putL (l : List Nmd) (t : List UInt8) (p : Int) : List Nmd := if has l t then l else ins l ⟨t, p⟩
def dropL (l : List Nmd) (t : List UInt8) : List Nmd := l.filter fun x => decide (x.s ≠ t)
def getP (l : List Nmd) (t : List UInt8) : Int := if has l t then (l[pos l t]!).p else 0
def begs (l : List Nmd) (t : List UInt8) : List Nmd := l.filter fun x => decide (t <+: x.s)
theorem get_take {l : List Nmd} {i k : Nat} (h : k < i) : (l.take i)[k]! = l[k]! := by
  rw [List.getElem!_eq_getElem?_getD, List.getElem!_eq_getElem?_getD, List.getElem?_take, if_pos h]
theorem get_drop (l : List Nmd) (i k : Nat) : (l.drop i)[k]! = l[i + k]! := by
  rw [List.getElem!_eq_getElem?_getD, List.getElem!_eq_getElem?_getD, List.getElem?_drop]
theorem srt_pw {l : List Nmd} : srt l ↔ l.Pairwise fun a b => ltB a.s b.s = true := by
  rw [List.pairwise_iff_getElem]
  constructor
  · intro h i j hi hj hij
    have := h i j hij hj
    rwa [getElem!_pos l i hi, getElem!_pos l j hj] at this
  · intro h i j hij hj
    rw [getElem!_pos l i (by omega), getElem!_pos l j hj]
    exact h i j (by omega) hj hij
theorem srt_filter {l : List Nmd} (h : srt l) (f : Nmd → Bool) : srt (l.filter f) := srt_pw.2 ((srt_pw.1 h).filter f)
/-- a list in order, cut at a name: those ahead of it, and those behind it -/
theorem cut_take {l : List Nmd} (h : srt l) (t : List UInt8) : l.take (pos l t) = l.filter fun x => ltB x.s t := by
  induction l with
  | nil => rfl
  | cons x l ih =>
    have hs : srt l := srt_pw.2 (List.pairwise_cons.1 (srt_pw.1 h)).2
    have hx := (List.pairwise_cons.1 (srt_pw.1 h)).1
    cases hc : ltB x.s t with
    | true =>
      have hp : pos (x :: l) t = pos l t + 1 := by unfold pos; rw [List.takeWhile_cons, if_pos (by simpa using hc)]; rfl
      rw [hp, List.take_succ_cons, List.filter_cons, if_pos (by simpa using hc), ih hs]
    | false =>
      have hp : pos (x :: l) t = 0 := by unfold pos; rw [List.takeWhile_cons, if_neg (by simpa using hc)]; rfl
      rw [hp, List.take_zero]
      symm
      rw [List.filter_eq_nil_iff]
      intro a ha hb
      rcases List.mem_cons.1 ha with rfl | ha
      · rw [hc] at hb; cases hb
      · have := ltB_trans (hx a ha) hb; rw [hc] at this; cases this
theorem cut_drop {l : List Nmd} (h : srt l) (t : List UInt8) : l.drop (pos l t) = l.filter fun x => !ltB x.s t := by
  induction l with
  | nil => rfl
  | cons x l ih =>
    have hs : srt l := srt_pw.2 (List.pairwise_cons.1 (srt_pw.1 h)).2
    have hx := (List.pairwise_cons.1 (srt_pw.1 h)).1
    cases hc : ltB x.s t with
    | true =>
      have hp : pos (x :: l) t = pos l t + 1 := by unfold pos; rw [List.takeWhile_cons, if_pos (by simpa using hc)]; rfl
      rw [hp, List.drop_succ_cons, List.filter_cons, if_neg (by simpa using hc), ih hs]
    | false =>
      have hp : pos (x :: l) t = 0 := by unfold pos; rw [List.takeWhile_cons, if_neg (by simpa using hc)]; rfl
      rw [hp, List.drop_zero]
      symm
      rw [List.filter_eq_self]
      intro a ha
      rcases List.mem_cons.1 ha with rfl | ha
      · rw [hc]; rfl
      · cases hb : ltB a.s t with
        | false => rfl
        | true => have := ltB_trans (hx a ha) hb; rw [hc] at this; cases this
theorem cut_drop_gt {l : List Nmd} (h : srt l) {t : List UInt8} (hn : has l t = false) : l.drop (pos l t) = l.filter fun x => ltB t x.s := by
  rw [cut_drop h]
  refine List.filter_congr fun x hx => ?_
  have hne : x.s ≠ t := fun e => by
    have : has l t = true := List.any_eq_true.2 ⟨x, hx, decide_eq_true e⟩
    rw [hn] at this; cases this
  rcases ltB_tri x.s t with k | k | k
  · rw [k, ltB_asymm k]; rfl
  · exact absurd k hne
  · rw [k, ltB_asymm k]; rfl
theorem ins_doc {l : List Nmd} (h : srt l) {x : Nmd} (hn : has l x.s = false) : ins l x = (l.filter fun y => ltB y.s x.s) ++ [x] ++ l.filter fun y => ltB x.s y.s := by
  unfold ins; rw [cut_take h, cut_drop_gt h hn]
theorem srt_ins {l : List Nmd} (h : srt l) {x : Nmd} (hn : has l x.s = false) : srt (ins l x) := by
  rw [ins_doc h hn, srt_pw, List.append_assoc, List.pairwise_append]
  have hp := srt_pw.1 h
  refine ⟨hp.filter _, ?_, ?_⟩
  · rw [List.singleton_append, List.pairwise_cons]
    exact ⟨fun a ha => (List.mem_filter.1 ha).2, hp.filter _⟩
  · intro a ha b hb
    have h1 := (List.mem_filter.1 ha).2
    rcases List.mem_cons.1 hb with rfl | hb
    · exact h1
    · exact ltB_trans h1 (List.mem_filter.1 hb).2
theorem srt_put {l : List Nmd} (h : srt l) (t : List UInt8) (p : Int) : srt (putL l t p) := by
  unfold putL
  split
  · exact h
  · rename_i hn; exact srt_ins h (by simpa using hn)
theorem srt_drop {l : List Nmd} (h : srt l) (t : List UInt8) : srt (dropL l t) := srt_filter h _
theorem len_ins (l : List Nmd) (x : Nmd) : (ins l x).length = l.length + 1 := by
  unfold ins
  have := pos_le l x.s
  simp only [List.length_append, List.length_take, List.length_drop, List.length_singleton]; omega
theorem len_put (l : List Nmd) (t : List UInt8) (p : Int) : (putL l t p).length ≤ l.length + 1 := by
  unfold putL; split
  · omega
  · rw [len_ins]; exact Nat.le_refl _
theorem len_drop (l : List Nmd) (t : List UInt8) : (dropL l t).length ≤ l.length := List.length_filter_le _ _
/-- what is dropped stands at one place -/
theorem drop_at {l : List Nmd} (h : srt l) {i : Nat} (hi : i < l.length) : l.take i ++ l.drop (i + 1) = dropL l (l[i]!).s := by
  have e : l = l.take i ++ (l[i]! :: l.drop (i + 1)) := by rw [← Ls.drop_cons hi, List.take_append_drop]
  have hp := srt_pw.1 h
  rw [e, List.pairwise_append, List.pairwise_cons] at hp
  obtain ⟨_, ⟨h2, _⟩, h3⟩ := hp
  have h4 : dropL l (l[i]!).s = dropL (l.take i ++ (l[i]! :: l.drop (i + 1))) (l[i]!).s := congrArg (fun z => dropL z (l[i]!).s) e
  rw [h4]
  unfold dropL
  rw [List.filter_append, List.filter_cons, if_neg (by simp), List.filter_eq_self.2, List.filter_eq_self.2]
  · intro a ha; exact decide_eq_true (fun e => ltB_ne (h2 a ha) e.symm)
  · intro a ha; exact decide_eq_true (ltB_ne (h3 a ha _ (List.mem_cons_self ..)))
theorem drop_none {l : List Nmd} {t : List UInt8} (hn : has l t = false) : dropL l t = l := by
  unfold dropL
  rw [List.filter_eq_self]
  intro a ha
  refine decide_eq_true fun e => ?_
  have : has l t = true := List.any_eq_true.2 ⟨a, ha, decide_eq_true e⟩
  rw [hn] at this; cases this
/-- those that begin so stand beside one another -/
theorem begs_at {l : List Nmd} (h : srt l) (t : List UInt8) : (l.drop (pos l t)).takeWhile (fun x => decide (t <+: x.s)) = begs l t := by
  induction l with
  | nil => rfl
  | cons x l ih =>
    have hs : srt l := srt_pw.2 (List.pairwise_cons.1 (srt_pw.1 h)).2
    have hx := (List.pairwise_cons.1 (srt_pw.1 h)).1
    cases hc : ltB x.s t with
    | true =>
      have hp : pos (x :: l) t = pos l t + 1 := by unfold pos; rw [List.takeWhile_cons, if_pos (by simpa using hc)]; rfl
      have hn : ¬ t <+: x.s := fun e => by rw [pre_not_lt e] at hc; cases hc
      rw [hp, List.drop_succ_cons, ih hs]
      unfold begs
      rw [List.filter_cons, if_neg (by simpa using hn)]
    | false =>
      have hp : pos (x :: l) t = 0 := by unfold pos; rw [List.takeWhile_cons, if_neg (by simpa using hc)]; rfl
      rw [hp, List.drop_zero]
      unfold begs
      by_cases hb : t <+: x.s
      · rw [List.takeWhile_cons, if_pos (by simpa using hb), List.filter_cons, if_pos (by simpa using hb)]
        congr 1
        have hgs : ∀ (l : List Nmd), (∀ a ∈ l, ltB a.s t = false) → srt l → l.takeWhile (fun x => decide (t <+: x.s)) = l.filter fun x => decide (t <+: x.s) := by
          intro l
          induction l with
          | nil => intros; rfl
          | cons y l ih2 =>
            intro h1 h2
            have h2s : srt l := srt_pw.2 (List.pairwise_cons.1 (srt_pw.1 h2)).2
            have h2x := (List.pairwise_cons.1 (srt_pw.1 h2)).1
            by_cases hy : t <+: y.s
            · rw [List.takeWhile_cons, if_pos (by simpa using hy), List.filter_cons, if_pos (by simpa using hy), ih2 (fun a ha => h1 a (List.mem_cons_of_mem _ ha)) h2s]
            · rw [List.takeWhile_cons, if_neg (by simpa using hy), List.filter_cons, if_neg (by simpa using hy)]
              symm; rw [List.filter_eq_nil_iff]
              intro a ha; simpa using pre_gone (h1 y (List.mem_cons_self ..)) hy (h2x a ha)
        refine hgs l (fun a ha => ?_) hs
        cases k : ltB a.s t with
        | false => rfl
        | true => have := ltB_trans (hx a ha) k; rw [hc] at this; cases this
      · rw [List.takeWhile_cons, if_neg (by simpa using hb), List.filter_cons, if_neg (by simpa using hb)]
        symm; rw [List.filter_eq_nil_iff]
        intro a ha; simpa using pre_gone hc hb (hx a ha)
theorem filt_yes {α : Type} [Inhabited α] (f : α → Bool) (l : List α) (j : Nat) (hj : j < l.length) (h : f (l[j]!) = true) : (l.take (j + 1)).filter f = (l.take j).filter f ++ [l[j]!] := by
  rw [Ls.take_snoc hj, List.filter_append, List.filter_cons, if_pos h]; rfl
theorem filt_no {α : Type} [Inhabited α] (f : α → Bool) (l : List α) (j : Nat) (hj : j < l.length) (h : f (l[j]!) = false) : (l.take (j + 1)).filter f = (l.take j).filter f := by
  rw [Ls.take_snoc hj, List.filter_append, List.filter_cons, if_neg (by rw [h]; decide)]; simp
theorem drop_lt (l : List Nmd) (t : List UInt8) : decide ((dropL l t).length < l.length) = has l t := by
  cases h : has l t with
  | false => rw [drop_none h]; simp
  | true =>
    obtain ⟨x, hx, e⟩ := List.any_eq_true.1 h
    refine decide_eq_true (Nat.lt_of_le_of_ne (len_drop l t) fun hl => ?_)
    have := List.length_filter_eq_length_iff.1 hl x hx
    exact absurd (of_decide_eq_true e) (of_decide_eq_true this)
theorem begs_nil (l : List Nmd) : begs l [] = l := by
  unfold begs; rw [List.filter_eq_self]; intro a _; exact decide_eq_true List.nil_prefix
end Nm
end Go.Proofs.YtjdlnckifhifbaaGreat
/- Rows of cells: what one owns, opened; copy, append and clear in place; append of zeros; capacity; whether two slices overlap. -/
set_option linter.unusedSimpArgs false
set_option linter.unusedVariables false
set_option linter.unusedSectionVars false
set_option maxRecDepth 20000
namespace Go.J
open Go
def Hld (cs : List Value) (o : Nat) (vs : List Value) : Prop := ∀ j, j < vs.length → cs[o + j]? = vs[j]?
def put (cs : List Value) (a : Nat) (vs : List Value) : List Value := cs.take a ++ vs ++ cs.drop (a + vs.length)
theorem put_len {cs vs : List Value} {a : Nat} (h : a + vs.length ≤ cs.length) : (put cs a vs).length = cs.length := by
  unfold put; simp only [List.length_append, List.length_take, List.length_drop]; omega
theorem put_get {cs vs : List Value} {a : Nat} (h : a + vs.length ≤ cs.length) (k : Nat) : (put cs a vs)[k]? = if a ≤ k ∧ k < a + vs.length then vs[k - a]? else cs[k]? := by
  unfold put
  have e1 : (cs.take a).length = a := by rw [List.length_take]; omega
  by_cases h1 : k < a
  · rw [if_neg (by omega), List.append_assoc, List.getElem?_append_left (by omega), List.getElem?_take, if_pos h1]
  · by_cases h2 : k < a + vs.length
    · rw [if_pos ⟨by omega, h2⟩, List.append_assoc, List.getElem?_append_right (by omega), e1, List.getElem?_append_left (by omega)]
    · rw [if_neg (by omega), List.getElem?_append_right (by rw [List.length_append, e1]; omega), List.length_append, e1, List.getElem?_drop]
      congr 1; omega
theorem Hld.put_in {cs vs : List Value} {a : Nat} (h : a + vs.length ≤ cs.length) : Hld (put cs a vs) a vs := fun j hj => by
  rw [put_get h, if_pos ⟨by omega, by omega⟩]; congr 1; omega
theorem Hld.put_out {cs vs us : List Value} {a o : Nat} (h : a + vs.length ≤ cs.length) (hh : Hld cs o us) (hd : o + us.length ≤ a ∨ a + vs.length ≤ o) : Hld (put cs a vs) o us := fun j hj => by
  rw [put_get h, if_neg (by omega)]; exact hh j hj
theorem Hld.app {cs us vs : List Value} {o : Nat} (h1 : Hld cs o us) (h2 : Hld cs (o + us.length) vs) : Hld cs o (us ++ vs) := fun j hj => by
  rw [List.length_append] at hj
  by_cases h : j < us.length
  · rw [List.getElem?_append_left h]; exact h1 j h
  · rw [List.getElem?_append_right (by omega), ← h2 (j - us.length) (by omega)]; congr 1; omega
theorem Hld.left {cs us vs : List Value} {o : Nat} (h : Hld cs o (us ++ vs)) : Hld cs o us := fun j hj => by
  rw [h j (by rw [List.length_append]; omega), List.getElem?_append_left hj]
theorem Hld.right {cs us vs : List Value} {o : Nat} (h : Hld cs o (us ++ vs)) : Hld cs (o + us.length) vs := fun j hj => by
  rw [Nat.add_assoc, h (us.length + j) (by rw [List.length_append]; omega), List.getElem?_append_right (by omega)]; congr 1; omega
section
variable {P : Program} {n : Nat} {w0 : World} {F : Fr} {m : Mem} {Rs Rs' R1 R2 : List Res} {Q : Exit → Act → World → Prop} {K : Act → World → Prop} {C : World → Prop} {α : Type} [Inhabited α] {f : α → List Value} {sz : Nat}
variable {E E2 : TypeId} {p : Option Addr} {c : Nat} {l : List α} {g g2 a o dl dc sl sc : Nat} {cs cs2 : List Value}
theorem At.own_row (hp : Pick Rs (.own f sz E p c l) Rs') (h0 : p = none → c = 0 → l = [] → At n w0 F m Rs K)
    (h1 : ∀ g o cs, p = some ⟨g, o, none⟩ → l.length ≤ c → c ≤ maxLen → o + c * sz ≤ cs.length → Hld cs o (l.flatMap f) → At n w0 F m (.blk g E cs :: Rs') K) (hf : Fl f sz) : At n w0 F m Rs K := fun a w ha hw => by
  obtain ⟨s, ⟨e1, e2, e3, _⟩ | ⟨g, o, cur, rfl, h2, h3, h4, h5, h6, h7⟩⟩ := hw.get hp
  · exact h0 e1 e2 e3 a w ha hw
  · refine h1 g o cur.toList rfl h3 h4 (by rw [Array.length_toList]; exact h5) (fun j hj => ?_) a w ha (hw.turn hp fun s' hs' => ?_)
    · rw [Array.getElem?_toList]; exact h6 j (by rw [flatMap_length hf.len] at hj; exact hj)
    · rcases hs' with ⟨e1, _⟩ | ⟨g', o', cur', e1, _, _, _, _, _, g7⟩
      · cases e1
      · injection e1 with e1; injection e1 with e1 _ _; subst e1
        refine ⟨fun k => k = g, ⟨?_, fun _ => Iff.rfl⟩, rfl, rfl, rfl, Nat.le_refl _, fun _ _ _ => rfl, fun k hk => .inl ((g7 k).2 hk)⟩
        rw [Array.toArray_toList]; exact h2
theorem own_close (hf : Fl f sz) (h1 : l.length ≤ c) (h2 : c ≤ maxLen) (h3 : o + c * sz ≤ cs.length) (h4 : Hld cs o (l.flatMap f)) : Ent (.blk g E cs :: Rs) (.own f sz E (some ⟨g, o, none⟩) c l :: Rs) := fun w s ⟨s1, s2, ⟨e1, e2⟩, g2, g3, g4⟩ =>
  ⟨s, ⟨s1, s2, .inr ⟨g, o, cs.toArray, rfl, e1, h1, h2, by rw [List.size_toArray]; exact h3, fun j hj => by rw [List.getElem?_toArray]; exact h4 j (by rw [flatMap_length hf.len]; exact hj), e2⟩, g2, g3, g4⟩, fun _ x => x⟩
theorem At.own_end (hf : Fl f sz) (h1 : l.length ≤ c) (h2 : c ≤ maxLen) (h3 : o + c * sz ≤ cs.length) (h4 : Hld cs o (l.flatMap f)) (hp : Pick Rs (.blk g E cs) Rs') (h : At n w0 F m (.own f sz E (some ⟨g, o, none⟩) c l :: Rs') K) : At n w0 F m Rs K :=
  At.ent ((Ent.of_pick hp).trans (own_close hf h1 h2 h3 h4)) h
theorem blk_cells (hp : Pick Rs (.blk g E cs) Rs') {vs : List Value} (hh : Hld cs a vs) (w : World) (hw : HW w0 m Rs w) (j : Nat) (hj : j < vs.length) : w.cell? ⟨g, a + j, none⟩ = vs[j]? := by
  rw [World.cell_of (hw.blk hp), List.getElem?_toArray]; exact hh j hj
theorem rdb_cellsV {q : Option Addr} {l2 : List α} {c2 g2 a2 : Nat} (h : Rdb C f sz q c2 l2) (hq : q = some ⟨g2, a2, none⟩) {vs : List Value} (hv : vs = l2.flatMap f) (w : World) (hw : C w) (j : Nat) (hj : j < vs.length) : w.cell? ⟨g2, a2 + j, none⟩ = vs[j]? := by
  subst hv
  exact rdb_cells h hw g2 a2 hq j (by rw [flatMap_length h.fl.len] at hj; exact hj)
/-- cells are written in place -/
theorem HW.putB {w : World} (hw : HW w0 m Rs w) (hp : Pick Rs (.blk g E cs) Rs') {vs : List Value} (hfit : a + vs.length ≤ cs.length) (h1 : ∀ v ∈ vs, v.oneCell' = true) :
    ∃ w', (storeCells ⟨g, a, none⟩ vs 0).run P w = .ok () w' ∧ HW w0 m (.blk g E (put cs a vs) :: Rs') w' := by
  have hb := hw.blk hp
  have hst := run_storeCells_at P g a E vs 0 cs.toArray w hb (by simpa using hfit) h1
  simp only [Nat.add_zero] at hst
  refine ⟨_, hst, hw.turn hp fun s hs => ⟨s, ⟨setRow_heap w g cs.toArray _ E _ hb, hs.2⟩, rfl, rfl, rfl, by simp, fun k _ hk => setRow_other w g k _ (fun e => hk ((hs.2 k).2 e)), fun k hk => .inl hk⟩⟩
theorem At.copyB {ops : Array Oper} {rest : List Oper} {d : Nat} {x y : Operand} {t tx ty : TypeId} {pos : String} {aft : Array Edge} {a2 k : Nat} (vs : List Value)
    (hx : ev F x = some (.slice (some ⟨g, a, none⟩) dl dc)) (hy : ev F y = some (.slice (some ⟨g2, a2, none⟩) sl sc)) (ht : P.underlying t = some (.slice E2)) (hs : sizeB P E2 = some sz)
    (hk : Nat.min sl dl = k) (hv : k * sz = vs.length) (hr : ∀ w, HW w0 m Rs w → ∀ j, j < vs.length → w.cell? ⟨g2, a2 + j, none⟩ = vs[j]?) (h1 : ∀ v ∈ vs, v.oneCell' = true)
    (hp : Pick Rs (.blk g E cs) Rs') (hfit : a + vs.length ≤ cs.length) (hd : Nat.blt d n = true)
    (h : At n w0 ((d, .int .i64 (k : Int)) :: F) m (.blk g E (put cs a vs) :: Rs') (wpList P ops Q rest)) :
    At n w0 F m Rs (wpList P ops Q (⟨some d, .call ⟨.builtin .copy, #[x, y], #[t, tx]⟩, ty, pos, aft, none⟩ :: rest)) := fun ac w ha hw =>
  wpList_plain rfl fun K hK => by
    obtain ⟨w', hst, hw'⟩ := hw.putB (P := P) hp hfit h1
    have hl := run_loadCells (P := P) w g2 a2 vs (hr w hw)
    have hrun : (execOp ac.eval ⟨some d, .call ⟨.builtin .copy, #[x, y], #[t, tx]⟩, ty, pos, aft, none⟩).run P w = .ok (.value (.int .i64 (k : Int))) w' := by
      rw [BigFrame.execOp_builtin]
      have hu : ∀ w, (underlying t).run P w = .ok (.slice E2) w := fun w => by simp only [underlying, program, bind, Sem.bind, Sem.run, ht]; rfl
      have h0 : (Builtin.copy_ #[t, tx] ty #[.slice (some ⟨g, a, none⟩) dl dc, .slice (some ⟨g2, a2, none⟩) sl sc]).run P w = .ok (goInt k) w' := by
        unfold Builtin.copy_
        simp only [Sem.run_bind, hu, Result.andThen, Builtin.lenOf, Builtin.firstCells, List.getElem?_toArray, List.getElem?_cons_zero, List.getElem?_cons_succ, Sem.run_pure, run_sizeOf hs, hk, hv, hl, hst]
      simp [BigFrame.builtin_copy, ha.ev hx, ha.ev hy, h0, goInt]
    unfold Oper.wp
    rw [hrun]
    exact hK _ _ (h _ _ (ha.put hd) hw')
/-- append where there is room, at cells -/
theorem At.appendB {ops : Array Oper} {rest : List Oper} {d : Nat} {x y : Operand} {t tx ty : TypeId} {pos : String} {aft : Array Edge} {i k : Nat} {q : Option Addr} (vs : List Value)
    (hx : ev F x = some (.slice (some ⟨g, o, none⟩) i c)) (hy : ev F y = some (.slice q k sc)) (ht : P.underlying t = some (.slice E2)) (htx : P.underlying tx = some (.slice E2)) (hs : sizeB P E2 = some sz)
    (hv : k * sz = vs.length) (hr : 0 < k → ∃ g2 a2, q = some ⟨g2, a2, none⟩ ∧ ∀ w, HW w0 m Rs w → ∀ j, j < vs.length → w.cell? ⟨g2, a2 + j, none⟩ = vs[j]?) (h1 : ∀ v ∈ vs, v.oneCell' = true) (hroom : i + k ≤ c)
    (hp : Pick Rs (.blk g E cs) Rs') (hfit : o + i * sz + vs.length ≤ cs.length) (hd : Nat.blt d n = true)
    (h : At n w0 ((d, .slice (some ⟨g, o, none⟩) (i + k) c) :: F) m (.blk g E (put cs (o + i * sz) vs) :: Rs') (wpList P ops Q rest)) :
    At n w0 F m Rs (wpList P ops Q (⟨some d, .call ⟨.builtin .append, #[x, y], #[t, tx]⟩, ty, pos, aft, none⟩ :: rest)) := fun ac w ha hw =>
  wpList_plain rfl fun K hK => by
    obtain ⟨w', hst, hw'⟩ := hw.putB (P := P) hp hfit h1
    have hu : ∀ w, (underlying t).run P w = .ok (.slice E2) w := fun w => by simp only [underlying, program, bind, Sem.bind, Sem.run, ht]; rfl
    have hux : ∀ w, (underlying tx).run P w = .ok (.slice E2) w := fun w => by simp only [underlying, program, bind, Sem.bind, Sem.run, htx]; rfl
    have hc : (Builtin.firstCells sz k (.slice q k sc)).run P w = .ok vs.toArray w := by
      rcases Nat.eq_zero_or_pos k with hk | hk
      · have hvs : vs = [] := List.eq_nil_of_length_eq_zero (by rw [← hv, hk, Nat.zero_mul])
        subst hvs hk
        cases q with
        | none => rfl
        | some b =>
          show (loadCells b (0 * sz)).run P w = _
          rw [Nat.zero_mul]
          exact run_loadCells_list w b [] (fun j v h => by cases h)
      · obtain ⟨g2, a2, rfl, hr2⟩ := hr hk
        show (loadCells ⟨g2, a2, none⟩ (k * sz)).run P w = _
        rw [hv]
        exact run_loadCells w g2 a2 vs (hr2 w hw)
    have hrun : (execOp ac.eval ⟨some d, .call ⟨.builtin .append, #[x, y], #[t, tx]⟩, ty, pos, aft, none⟩).run P w = .ok (.value (.slice (some ⟨g, o, none⟩) (i + k) c)) w' := by
      rw [BigFrame.execOp_builtin]
      have h0 : (Builtin.append_ #[t, tx] ty #[.slice (some ⟨g, o, none⟩) i c, .slice q k sc]).run P w = .ok (.slice (some ⟨g, o, none⟩) (i + k) c) w' := by
        simp [Builtin.append_, hu, hux, run_sizeOf hs, Builtin.lenOf, hroom, hc, Addr.add_eq, hst]
      simp [BigFrame.builtin_append, ha.ev hx, ha.ev hy, h0]
    unfold Oper.wp
    rw [hrun]
    exact hK _ _ (h _ _ (ha.put hd) hw')
/-- clear, at cells -/
theorem At.clearB {ops : Array Oper} {rest : List Oper} {d : Option Nat} {x : Operand} {t ty : TypeId} {pos : String} {aft : Array Edge} {k : Nat}
    (hx : ev F x = some (.slice (some ⟨g, a, none⟩) k c)) (ht : P.underlying t = some (.slice E2)) (he : elemB P E2 sz = true) (hz1 : zeroOneB P E2 = true)
    (hp : Pick Rs (.blk g E cs) Rs') (hfit : a + k * sz ≤ cs.length) (hd : d = none)
    (h : ∀ vs, vs.length = k * sz → At n w0 F m (.blk g E (put cs a vs) :: Rs') (wpList P ops Q rest)) :
    At n w0 F m Rs (wpList P ops Q (⟨d, .call ⟨.builtin .clear, #[x], #[t]⟩, ty, pos, aft, none⟩ :: rest)) := fun ac w ha hw =>
  wpList_plain rfl fun K hK => by
    subst hd
    obtain ⟨i, z, hi, hz, hsz, hbt, hzs⟩ := elemB_spec he
    have hone : z.cells.toList.all oneCell = true := by
      unfold zeroOneB at hz1; rw [hi] at hz1; simp only [hz] at hz1; exact hz1
    have hlen : (Builtin.zeroCells z.cells k).toList.length = k * sz := by rw [Array.length_toList, size_zeroCells, hzs]
    obtain ⟨w', hst, hw'⟩ := hw.putB (P := P) (vs := (Builtin.zeroCells z.cells k).toList) hp (by rw [hlen]; exact hfit) (zeroCells_one hone _)
    have hzv : ∀ w, (zeroValue E2).run P w = .ok z w := fun w => by simp [zeroValue, typeInfo, hi, hz]
    have hu : ∀ w, (underlying t).run P w = .ok (.slice E2) w := fun w => by simp only [underlying, program, bind, Sem.bind, Sem.run, ht]; rfl
    have hrun : (execOp ac.eval ⟨none, .call ⟨.builtin .clear, #[x], #[t]⟩, ty, pos, aft, none⟩).run P w = .ok (.value (.tuple #[])) w' := by
      rw [BigFrame.execOp_builtin]
      have h0 : (Builtin.clear_ #[t] ty #[.slice (some ⟨g, a, none⟩) k c]).run P w = .ok (.tuple #[]) w' := by
        cases k with
        | zero =>
          have : (Builtin.zeroCells z.cells 0).toList = [] := List.eq_nil_of_length_eq_zero (by rw [hlen, Nat.zero_mul])
          rw [this] at hst
          simp only [storeCells, pure, Sem.run] at hst
          cases hst
          simp [Builtin.clear_, hu]
        | succ k => simp [Builtin.clear_, hu, hzv, hst]
      simp [BigFrame.builtin_clear, ha.ev hx, h0]
    unfold Oper.wp
    rw [hrun]
    exact hK _ _ (h _ hlen _ _ ha hw')
/-- append of so many zeros, where there is no room -/
theorem At.appendZ {ops : Array Oper} {rest : List Oper} {d : Nat} {x y : Operand} {t tn ty : TypeId} {pos : String} {aft : Array Edge} {i k : Nat} {kn : IntKind} (z : α)
    (hx : ev F x = some (.slice p i c)) (hy : ev F y = some (.int .i64 (k : Int))) (h1 : Rdb (HW w0 m Rs) f sz p c l) (hi : i = l.length) (ht : P.underlying t = some (.slice E)) (htn : P.underlying tn = some (.int kn)) (he : elemB P E sz = true) (hz : zeroL P E = some (f z))
    (hgrow : c < l.length + k) (h0 : 0 < k) (hsm : l.length + k ≤ 34359738368) (hd : Nat.blt d n = true)
    (h : ∀ p' c', At n w0 ((d, .slice p' (l ++ List.replicate k z).length c') :: F) m (.own f sz E p' c' (l ++ List.replicate k z) :: Rs) (wpList P ops Q rest)) :
    At n w0 F m Rs (wpList P ops Q (⟨some d, .call ⟨.builtin .append, #[x, y], #[t, tn]⟩, ty, pos, aft, none⟩ :: rest)) := fun ac w ha hw =>
  wpList_plain rfl fun K hK => by
    subst hi
    have hf := h1.fl
    obtain ⟨i, zv, hi, hzv, hsz, hbt, hzs⟩ := elemB_spec he
    obtain ⟨i', z', hi', hz', hzc⟩ := zeroL_spec hz
    rw [hi] at hi'; cases hi'
    rw [hzv] at hz'; cases hz'
    have hby : (l.length + k) * i.bytes ≤ 140737488355328 := Nat.le_trans (Nat.mul_le_mul hsm hbt) (by omega)
    have h63 : l.length + k ≤ maxLen := by simp only [maxLen]; omega
    have s1 := rdb_src (P := P) h1 hw ht
    have hl1 := flatMap_length hf.len l
    have hold : (Builtin.firstCells i.size l.length (.slice p l.length c)).run P w.drew = .ok (l.flatMap f).toArray w.drew := by rw [hsz]; exact s1.cellsD
    have hge := grownCap_ge w (l.length + k) c E
    have hcm : grownCap w (l.length + k) c E ≤ maxLen := grownCap_le_maxLen w (l.length + k) c E h63
    have hlz : (f z).length = sz := hf.len z
    have hcp : Builtin.zeroCells zv.cells k = (copies k (f z)).toArray := by
      have := copies_arr zv.cells (f z) hzc k
      rw [hlz] at this
      unfold Builtin.zeroCells
      rw [← this, hzs]
    have hfm : (l ++ List.replicate k z).flatMap f = l.flatMap f ++ copies k (f z) := by rw [List.flatMap_append, flatMap_replicate]
    have hr : (Builtin.append_ #[t, tn] ty #[.slice p l.length c, .int .i64 (k : Int)]).run P w = .ok (.slice (some ⟨w.heap.size, 0, none⟩) (l.length + k) (grownCap w (l.length + k) c E))
        (w.drew.alloc (.cells ((l.flatMap f ++ copies k (f z)).toArray ++ Builtin.zeroCells zv.cells (grownCap w (l.length + k) c E - (l.length + k))) E)) := by
      have hwk : IntKind.i64.wrap (k : Int) = k := by rw [IntKind.wrap_i64]; omega
      have hneg : ¬ ((k : Int) < 0) := by omega
      have hkb : k * i.bytes ≤ 281474976710656 := Nat.le_trans (Nat.mul_le_mul (show k ≤ 34359738368 by omega) hbt) (by omega)
      have h48 : ¬ (281474976710656 < (k : Int) * (i.bytes : Int)) := by rw [← Int.natCast_mul]; omega
      have hn : ¬ (l.length + k ≤ c) := by omega
      have h63' : ¬ (9223372036854775807 < (l.length : Int) + (k : Int)) := by omega
      have hb63 : ¬ (281474976710656 < Builtin.nextslicecap (l.length + k) c * i.bytes) := by have := growslice_fits hgrow hby; omega
      have hk0 : ¬ k = 0 := by omega
      have hs0 : ¬ (k * i.size = 0) := Nat.mul_ne_zero hk0 (by have := hf.pos; omega)
      rw [show (l.flatMap f ++ copies k (f z)).toArray = (l.flatMap f).toArray ++ (copies k (f z)).toArray by simp, ← hcp]
      simp [Builtin.append_, run_underlying ht, run_underlying htn, sizeOf, typeInfo, zeroValue, hi, hzv, asInt, asIntOf, hwk, hneg, h48, hn, h63', hb63, hk0, hs0, Question.forced, hold, newRow, grownCap]
    unfold Oper.wp
    have hrun : ∀ v w', (Builtin.append_ #[t, tn] ty #[.slice p l.length c, .int .i64 (k : Int)]).run P w = .ok v w' → (execOp ac.eval ⟨some d, .call ⟨.builtin .append, #[x, y], #[t, tn]⟩, ty, pos, aft, none⟩).run P w = .ok (.value v) w' := fun v w' hr => by
      rw [BigFrame.execOp_builtin]
      simp [BigFrame.builtin_append, ha.ev hx, ha.ev hy, hr]
    rw [hrun _ _ hr]
    have hll : (l ++ List.replicate k z).length = l.length + k := by simp
    rw [← hll] at hge hcm ⊢
    refine hK _ _ (h _ _ _ _ (ha.put hd) (hw.add rfl rfl rfl (by simp) (fun j hj => heap_alloc_old w.drew _ hj) ⟨fun j => j = w.heap.size, .inr ⟨w.heap.size, 0, _, rfl, heap_alloc_new w.drew _, hge, hcm, ?_, fun j hj => ?_, fun _ => Iff.rfl⟩, fun j hj => by omega⟩))
    · rw [← hfm]
      simp only [Array.size_append, List.size_toArray, size_zeroCells, hzs, flatMap_length hf.len, ← Nat.add_mul]
      rw [Nat.add_sub_cancel' hge, Nat.zero_add]
      exact Nat.le_refl _
    · rw [Nat.zero_add, ← hfm, Array.getElem?_append_left (by simp only [List.size_toArray, flatMap_length hf.len]; exact hj)]
      simp
theorem pr_cap_sl {x : Operand} {t e : TypeId} {ln : Nat} (ht : P.underlying t = some (.slice e)) (hx : ev F x = some (.slice p ln c)) : PR P n F C (.call ⟨.builtin .cap, #[x], #[t]⟩) (.int .i64 (c : Int)) := fun _ _ _ _ _ a w ha _ => by
  simp [execOp, resolve, invoke, builtin, ha.ev hx, Builtin.cap_, underlying, program, ht, Sem.run, goInt]
/-- a part whose end is told with its room -/
theorem run_slice4 {t e : TypeId} (ht : P.underlying t = some (.slice e)) (hs : sizeB P e = some sz) (p : Option Addr) (l c lo hi mx : Nat) (h1 : lo ≤ hi) (h2 : hi ≤ mx) (h3 : mx ≤ c) (k k' k2 : IntKind) (w : World) :
    (Instr.sliceAt t (.slice p l c) (some (.int k (lo : Int))) (some (.int k' (hi : Int))) (some (.int k2 (mx : Int)))).run P w = .ok (.slice (subp p mx lo sz) (hi - lo) (mx - lo)) w := by
  have hr : ∀ w, (underlying t).run P w = .ok (.slice e) w := fun w => by simp only [underlying, program, bind, Sem.bind, Sem.run, ht]; rfl
  unfold Instr.sliceAt
  simp only [Sem.run_bind, hr, Result.andThen]
  unfold Instr.slice
  simp only [Sem.run_bind, hr, Result.andThen]
  have hb : (Instr.sliceBounds true l c (some (.int k (lo : Int))) (some (.int k' (hi : Int))) (some (.int k2 (mx : Int)))).run P w = .ok (lo, hi, mx) w := by
    unfold Instr.sliceBounds Instr.sliceBound
    simp [asIntOf, pure, Sem.run, bind, Sem.bind, h1, h2, h3]
  rw [hb]
  simp only [run_sizeOf hs, pure, Sem.run, subp]
theorem pr_slice4 {x y z u : Operand} {t e : TypeId} {ln lo hi mx : Nat} {k k' k2 : IntKind} (hx : ev F x = some (.slice p ln c)) (hy : ev F y = some (.int k (lo : Int))) (hz : ev F z = some (.int k' (hi : Int))) (hu : ev F u = some (.int k2 (mx : Int))) (ht : P.underlying t = some (.slice e)) (hs : sizeB P e = some sz) (h1 : lo ≤ hi) (h2 : hi ≤ mx) (h3 : mx ≤ c) :
    PR P n F C (.slice t x (some y) (some z) (some u)) (.slice (subp p mx lo sz) (hi - lo) (mx - lo)) := fun _ _ _ _ _ a w ha hC => by
  simp only [execOp, ha.ev hx, Sem.run_bind, Option.map_some, ha.ev hy, ha.ev hz, ha.ev hu]
  rw [run_slice4 ht hs p ln c lo hi mx h1 h2 h3]
  rfl
/-- parts of a row that is there -/
theorem pr_slice_bl {x y : Operand} {t e : TypeId} {ln lo : Nat} {k : IntKind} (hx : ev F x = some (.slice (some ⟨g, o, none⟩) ln c)) (hy : ev F y = some (.int k (lo : Int))) (ht : P.underlying t = some (.slice e)) (hs : sizeB P e = some sz) (h1 : lo ≤ ln) (h2 : ln ≤ c) (hlt : lo < c) :
    PR P n F C (.slice t x (some y) none none) (.slice (some ⟨g, o + lo * sz, none⟩) (ln - lo) (c - lo)) := by
  have := pr_slice_l (P := P) (n := n) (C := C) hx hy ht hs h1 h2
  rwa [show subp (some ⟨g, o, none⟩) c lo sz = some ⟨g, o + lo * sz, none⟩ by unfold subp; rw [if_neg (by omega)]; simp [Addr.add_eq]] at this
theorem pr_slice_bh {x y : Operand} {t e : TypeId} {ln hi : Nat} {k : IntKind} (hx : ev F x = some (.slice p ln c)) (hy : ev F y = some (.int k (hi : Int))) (ht : P.underlying t = some (.slice e)) (hs : sizeB P e = some sz) (h2 : hi ≤ c) :
    PR P n F C (.slice t x none (some y) none) (.slice p hi c) := by
  have := pr_slice_h (P := P) (n := n) (C := C) hx hy ht hs h2
  rwa [subp0, Nat.sub_zero, Nat.sub_zero] at this
theorem pr_slice_blh {x y z : Operand} {t e : TypeId} {ln lo hi : Nat} {k k' : IntKind} (hx : ev F x = some (.slice (some ⟨g, o, none⟩) ln c)) (hy : ev F y = some (.int k (lo : Int))) (hz : ev F z = some (.int k' (hi : Int))) (ht : P.underlying t = some (.slice e)) (hs : sizeB P e = some sz) (h1 : lo ≤ hi) (h2 : hi ≤ c) (hlt : lo < c) :
    PR P n F C (.slice t x (some y) (some z) none) (.slice (some ⟨g, o + lo * sz, none⟩) (hi - lo) (c - lo)) := by
  have := pr_slice_lh (P := P) (n := n) (C := C) hx hy hz ht hs h1 h2
  rwa [show subp (some ⟨g, o, none⟩) c lo sz = some ⟨g, o + lo * sz, none⟩ by unfold subp; rw [if_neg (by omega)]; simp [Addr.add_eq]] at this
theorem subp_lt {lo : Nat} (h : lo < c) : subp (some ⟨g, o, none⟩) c lo sz = some ⟨g, o + lo * sz, none⟩ := by unfold subp; rw [if_neg (by omega)]; simp [Addr.add_eq]
/-- a row that is there, read as a slice -/
theorem blk_rdbF (hp : Pick Rs (.blk g E cs) Rs') (hf : Fl f sz) (hh : Hld cs o (l.flatMap f)) (hc : l.length ≤ c) : Rdb (HW w0 m Rs) f sz (some ⟨g, o, none⟩) c l :=
  ⟨hf, fun _ _ _ => ⟨_, _, rfl⟩, fun _ _ => hc, fun w hw i j hi hj => by
    show w.cell? ⟨g, o + (i * sz + j), none⟩ = _
    have hb : (i + 1) * sz ≤ l.length * sz := Nat.mul_le_mul_right _ hi
    rw [Nat.add_mul] at hb
    rw [World.cell_of (hw.blk hp), List.getElem?_toArray, hh _ (by rw [flatMap_length hf.len]; omega), flatMap_get hf.len l i j hi hj]⟩
theorem Hld.split {i : Nat} (hf : Fl f sz) (hh : Hld cs o (l.flatMap f)) (hi : i ≤ l.length) : Hld cs o ((l.take i).flatMap f) ∧ Hld cs (o + i * sz) ((l.drop i).flatMap f) := by
  have e : l.flatMap f = (l.take i).flatMap f ++ (l.drop i).flatMap f := by rw [← List.flatMap_append, List.take_append_drop]
  rw [e] at hh
  refine ⟨hh.left, ?_⟩
  have := hh.right
  rwa [flatMap_length hf.len, List.length_take, Nat.min_eq_left hi] at this
/-- .. whose cells are known at once -/
theorem At.appendZB {ops : Array Oper} {rest : List Oper} {d : Nat} {x y : Operand} {t tn ty : TypeId} {pos : String} {aft : Array Edge} {i k : Nat} {kn : IntKind} (z : α)
    (hx : ev F x = some (.slice p i c)) (hy : ev F y = some (.int .i64 (k : Int))) (h1 : Rdb (HW w0 m Rs) f sz p c l) (hi : i = l.length) (ht : P.underlying t = some (.slice E)) (htn : P.underlying tn = some (.int kn)) (he : elemB P E sz = true) (hz : zeroL P E = some (f z))
    (hgrow : c < l.length + k) (h0 : 0 < k) (hsm : l.length + k ≤ 34359738368) (hd : Nat.blt d n = true)
    (h : ∀ g o c' cs, l.length + k ≤ c' → c' ≤ maxLen → o + c' * sz ≤ cs.length → Hld cs o ((l ++ List.replicate k z).flatMap f) → At n w0 ((d, .slice (some ⟨g, o, none⟩) (l.length + k) c') :: F) m (.blk g E cs :: Rs) (wpList P ops Q rest)) :
    At n w0 F m Rs (wpList P ops Q (⟨some d, .call ⟨.builtin .append, #[x, y], #[t, tn]⟩, ty, pos, aft, none⟩ :: rest)) := by
  refine At.appendZ z hx hy h1 hi ht htn he hz hgrow h0 hsm hd fun p' c' => ?_
  have hll : (l ++ List.replicate k z).length = l.length + k := by simp
  refine At.own_row pk0 (fun _ _ e => absurd (congrArg List.length e) (by rw [hll]; simp; omega)) (fun g o cs e h2 h3 h4 h5 => ?_) h1.fl
  subst e
  rw [hll] at h2 ⊢
  exact h g o c' cs h2 h3 h4 h5
theorem Pick.skip {X Y : Res} {A B T : List Res} (hp : Pick A X B) (hp2 : Pick B Y T) : ∃ T', Pick A Y T' := by
  induction hp generalizing T with
  | here => exact ⟨_, .there hp2⟩
  | @there X' R A B _ ih =>
    cases hp2 with
    | here => exact ⟨_, .here⟩
    | there h => obtain ⟨T', hT⟩ := ih h; exact ⟨_, .there hT⟩
theorem At.blk_ne (hp : Pick Rs (.blk g E cs) R1) (hp2 : Pick R1 (.blk g2 E2 cs2) R2) (h : g ≠ g2 → At n w0 F m Rs K) : At n w0 F m Rs K := fun a w ha hw => by
  refine h (fun e => ?_) a w ha hw
  obtain ⟨s, ⟨s1, s2, h1, h2, hd, he⟩, _⟩ := (hw.ent (Ent.of_pick hp)).res
  obtain ⟨s3, s4, h3, _, _, he2⟩ := (Sat.pick hp2).1 h2
  exact hd g ⟨(h1.2 g).2 rfl, (he2 g).2 (.inl ((h3.2 g).2 e))⟩
theorem pr_overlaps {id : FuncId} {fn : Func} {x y : Operand} {t r : TypeId} {ts : Array TypeId} {b : Nat} (hf : P.funcs[id]? = some fn) (hname : (fn.name == "runtime.NumGoroutine") = false) (hb : fn.body.isNone = true) (hn : Extern.findNext fn = none) (he : Extern.find fn = some (Extern.SlicesOverlaps.overlaps #[t, t] #[r]))
    (hx : ev F x = some (.slice (some ⟨g, a, none⟩) sl sc)) (hy : ev F y = some (.slice (some ⟨g2, b, none⟩) dl dc)) (ht : P.underlying t = some (.slice E)) (hs : sizeB P E = some sz) (hp : Pick Rs (.blk g E cs) R1) (hp2 : Pick R1 (.blk g2 E2 cs2) R2) (hne : g ≠ g2) (h0 : 0 < cs2.length) :
    PR P n F (HW w0 m Rs) (.call ⟨.value (.func id), #[x, y], ts⟩) (.bool false) := fun _ _ _ _ _ ac w ha hw => by
  rw [execOp_call_go]
  have h1 := hw.blk hp
  obtain ⟨R3, hp3⟩ := hp.skip hp2
  have h2 := hw.blk hp3
  have : (#[] ++ (#[x, y] : Array Operand).map ac.eval ++ #[] : Array Value) = #[.slice (some ⟨g, a, none⟩) sl sc, .slice (some ⟨g2, b, none⟩) dl dc] := by simp [ha.ev hx, ha.ev hy]
  rw [this, run_callFunc_extern hf hname hb hn he]
  have hfz : ∀ o', w.frozen? ⟨g, o', none⟩ = false := fun o' => by simp [World.frozen?, h1]
  rw [Lib.run_overlaps_apart w t r E ht sz (fun w => run_sizeOf hs w) ⟨g, a, none⟩ ⟨g2, b, none⟩ sl sc dl dc hne E E2 cs.length cs2.length (by simp [World.shape?, h1]) (by simp [World.shape?, h2]) (by omega) (hfz _) (hfz _)]
  rfl
end
end Go.J
/- The contracts under the index of names: how two names stand, where one stands, whether a text begins so. -/
set_option linter.unusedSimpArgs false
set_option linter.unusedVariables false
set_option linter.unusedSectionVars false
set_option maxRecDepth 20000
set_option maxHeartbeats 4000000
namespace Go.Proofs.YtjdlnckifhifbaaGreat
open Go Go.J
attribute [local irreducible] At AtQ AtM AtM1 PR Ct Pu Rd Res.blk Res.own Res.ex RVs RV
namespace Nm
theorem isNaN (a : List UInt8) : Pu Tryz.prog 77 #[.string (str a)] (.bool false) := by
  refine Pu.intro fun m => ?_
  refine Ct.enterV (by rfl) Tryz.func77 rfl Tryz.ntmps77 rfl (fun w0 Rest => ?_)
  (repeat' (first | refine zss ?_ | refine zs0 ?_ | (refine zsp ?_ ?_ <;> (intro hc; (try simp only [zhcs, reduceCtorEq] at hc); (try (exfalso; first | contradiction | omega | exact absurd rfl hc | exact absurd (by decide) hc))))))
  all_goals ((with_reducible apply At.retB1 (B := [])); exact rfl; exact rfl; exact zml; exact zkp; exact ⟨by simp, rfl, rfl⟩)
theorem compare (a b : List UInt8) : Pu Tryz.prog 53 #[.string (str a), .string (str b)] (.int .i64 (cmpS a b)) := by
  refine Pu.intro fun m => ?_
  cases h1 : ltB a b with
  | true =>
    rw [cmpS_lt h1]
    refine Ct.enterV (by rfl) Tryz.func53 rfl Tryz.ntmps53 rfl (fun w0 Rest => ?_)
    (repeat' (first | refine zss ?_ | ((first | (with_reducible first | apply At.val | apply AtQ.val)); (exact pr_strlss (by rfl) (by rfl) h1); exact rfl) | refine zs0 ?_ | ((with_reducible first | apply AtM1.callp | apply AtQ.callp | apply At.callp); kernel_rfl; exact rfl; exact rfl; exact isNaN _) | (refine zsp ?_ ?_ <;> (intro hc; (try simp only [zhcs, reduceCtorEq] at hc); (try (exfalso; first | contradiction | omega | exact absurd rfl hc | exact absurd (by decide) hc))))))
    all_goals ((with_reducible apply At.retB1 (B := [])); exact rfl; exact rfl; exact zml; exact zkp; exact ⟨rfl, rfl, rfl⟩)
  | false =>
    cases h2 : ltB b a with
    | true =>
      rw [show cmpS a b = 1 by unfold cmpS; rw [h1, h2]; rfl]
      refine Ct.enterV (by rfl) Tryz.func53 rfl Tryz.ntmps53 rfl (fun w0 Rest => ?_)
      (repeat' (first | refine zss ?_ | ((first | (with_reducible first | apply At.val | apply AtQ.val)); (first | exact pr_strlss (by rfl) (by rfl) h1 | exact pr_strgtr (by rfl) (by rfl) h2); exact rfl) | refine zs0 ?_ | ((with_reducible first | apply AtM1.callp | apply AtQ.callp | apply At.callp); kernel_rfl; exact rfl; exact rfl; exact isNaN _) | (refine zsp ?_ ?_ <;> (intro hc; (try simp only [zhcs, reduceCtorEq] at hc); (try (exfalso; first | contradiction | omega | exact absurd rfl hc | exact absurd (by decide) hc))))))
      all_goals ((with_reducible apply At.retB1 (B := [])); exact rfl; exact rfl; exact zml; exact zkp; exact ⟨rfl, rfl, rfl⟩)
    | false =>
      rw [show cmpS a b = 0 by unfold cmpS; rw [h1, h2]; rfl]
      refine Ct.enterV (by rfl) Tryz.func53 rfl Tryz.ntmps53 rfl (fun w0 Rest => ?_)
      (repeat' (first | refine zss ?_ | ((first | (with_reducible first | apply At.val | apply AtQ.val)); (first | exact pr_strlss (by rfl) (by rfl) h1 | exact pr_strgtr (by rfl) (by rfl) h2); exact rfl) | refine zs0 ?_ | ((with_reducible first | apply AtM1.callp | apply AtQ.callp | apply At.callp); kernel_rfl; exact rfl; exact rfl; exact isNaN _) | (refine zsp ?_ ?_ <;> (intro hc; (try simp only [zhcs, reduceCtorEq] at hc); (try (exfalso; first | contradiction | omega | exact absurd rfl hc | exact absurd (by decide) hc))))))
      all_goals ((with_reducible apply At.retB1 (B := [])); exact rfl; exact rfl; exact zml; exact zkp; exact ⟨rfl, rfl, rfl⟩)
theorem cmpAt {m : Mem} (x : Nmd) (t : List UInt8) : Ct Tryz.prog 52 #[x.v, .string (str t)] m [] (fun v m' B => v = .int .i64 (cmpS x.s t) ∧ m = m' ∧ B = []) := by
  refine Ct.enterV (by rfl) Tryz.func52 rfl Tryz.ntmps52 rfl (fun w0 Rest => ?_)
  (repeat' (first | refine zss ?_ | refine zs0 ?_ | ((with_reducible first | apply AtM1.callp | apply AtQ.callp | apply At.callp); kernel_rfl; exact rfl; exact rfl; exact compare _ _) | ((with_reducible apply At.box (d := 2)); exact rfl; exact rfl; exact rfl; intro b2) | (refine zsp ?_ ?_ <;> (intro hc; (try simp only [zhcs, reduceCtorEq] at hc); (try (exfalso; first | contradiction | omega | exact absurd rfl hc | exact absurd (by decide) hc))))))
  all_goals ((with_reducible apply At.retB1 (B := [])); exact rfl; exact rfl; exact zml; exact zkp; exact ⟨rfl, rfl, rfl⟩)
structure BS where
  (i j : Nat)
theorem search {m : Mem} (p : Option Addr) (c : Nat) (l : List Nmd) (t : List UInt8) (hs : srt l) (hl : l.length ≤ 1000000) :
    Ct Tryz.prog 51 #[.slice p l.length c, .string (str t), .func (.func 52) #[] #[]] m [.own cells 2 94 p c l]
      (fun v m' B => v = .tuple #[.int .i64 (pos l t : Int), .bool (has l t)] ∧ m = m' ∧ B = [.own cells 2 94 p c l]) := by
  refine Ct.enterV (by rfl) Tryz.func51 rfl Tryz.ntmps51 rfl (fun w0 Rest => ?_)
  (repeat' (first | refine zss ?_ | refine zsO ?_ | (refine zsp ?_ ?_ <;> (intro hc; (try simp only [zhcs, reduceCtorEq] at hc); (try (exfalso; first | contradiction | omega | exact absurd rfl hc | exact absurd (by decide) hc))))))
  (refine At.loopk (σ := BS) [0, 1, 2, 8] (fun s F0 => (9, .int .i64 (s.i : Int)) :: (10, .int .i64 (s.j : Int)) :: F0) (fun s => m) (fun s => .own cells 2 94 p c l :: Rest) (fun s => s.i ≤ s.j ∧ s.j ≤ l.length ∧ (∀ k, k < s.i → ltB (l[k]!).s t = true) ∧ (s.j < l.length → ltB (l[s.j]!).s t = false)) (fun s => s.j - s.i) ⟨0, l.length⟩ (by rfl) ?_ zsubs zml zente ?_)
  · exact ⟨Nat.zero_le _, Nat.le_refl _, fun k h => absurd h (Nat.not_lt_zero k), fun h => absurd h (Nat.lt_irrefl _)⟩
  rintro ⟨i, j⟩ ⟨h1, h2, h3, h4⟩
  dsimp only at h1 h2 h3 h4 ⊢
  by_cases h : i < j
  · obtain ⟨d, hd⟩ : ∃ d, (i + j) / 2 = d := ⟨_, rfl⟩
    have hu : IntKind.wrap .u64 ((i : Int) + (j : Int)) = ((i + j : Nat) : Int) := by rw [← Int.natCast_add]; exact IntWalk.u64_in _ (by omega)
    have ha : IntKind.wrap .i64 ((i : Int) + (j : Int)) = ((i + j : Nat) : Int) := by rw [← Int.natCast_add]; exact IntWalk.i64_in _ (by omega)
    have hu2 : IntKind.wrap .u64 ((i + j : Nat) : Int) = ((i + j : Nat) : Int) := IntWalk.u64_in _ (by omega)
    have hq : ((i + j : Nat) : Int) / 2 ^ (1 : Int).toNat = (d : Int) := by rw [← hd]; simp
    have hw : IntKind.wrap .i64 (d : Int) = (d : Int) := IntWalk.i64_in _ (by omega)
    have hd1 : IntKind.wrap .i64 ((d : Int) + 1) = ((d + 1 : Nat) : Int) := by rw [show (d : Int) + 1 = ((d + 1 : Nat) : Int) by omega]; exact IntWalk.i64_in _ (by omega)
    have hdl : d < l.length := by omega
    have hcm := cmpAt (m := m) (l[d]!) t
    cases hk : ltB (l[d]!).s t with
    | true =>
      rw [cmpS_lt hk] at hcm
      (repeat' (first | refine zss ?_ | ((first | (with_reducible first | apply At.val | apply AtQ.val)); (first | exact pr_add (by rfl) (by rfl) ha | exact pr_add (by rfl) (by rfl) hd1 | exact pr_conv ⟨_, rfl⟩ (by rfl) (by rfl) hu2 | exact pr_shrv (by rfl) (by rfl) (by omega) (by decide) hq | exact pr_conv ⟨_, rfl⟩ (by rfl) (by rfl) hw); exact rfl) | refine zsO ?_ | ((with_reducible apply At.callf); exact rfl; kernel_rfl; exact rfl; exact rfl; exact hcm; exact ztk; rintro v' m' B' hm' ⟨rfl, rfl, rfl⟩; skip) | (refine zsp ?_ ?_ <;> (intro hc; (try simp only [zhcs, reduceCtorEq] at hc); (try (exfalso; first | omega | contradiction | omega | exact absurd rfl hc | exact absurd (by decide) hc))))))
      all_goals ((with_reducible refine At.reachk ((⟨d + 1, j⟩ : BS)) ?_ ?_ ?_ ?_); exact zsubs; exact zml; exact zente; exact ⟨⟨by show d + 1 ≤ j; omega, h2, fun k hk1 => by
        by_cases e : k < d
        · by_cases e2 : k < i
          · exact h3 k e2
          · exact ltB_trans (hs k d e hdl) hk
        · obtain rfl : k = d := by have : k < d + 1 := hk1; omega
          exact hk, h4⟩, by show j - (d + 1) < j - i; omega⟩)
    | false =>
      have hge := cmpS_ge hk
      generalize cmpS (l[d]!).s t = q at hcm hge
      (repeat' (first | refine zss ?_ | ((first | (with_reducible first | apply At.val | apply AtQ.val)); (first | exact pr_add (by rfl) (by rfl) ha | exact pr_add (by rfl) (by rfl) hd1 | exact pr_conv ⟨_, rfl⟩ (by rfl) (by rfl) hu2 | exact pr_shrv (by rfl) (by rfl) (by omega) (by decide) hq | exact pr_conv ⟨_, rfl⟩ (by rfl) (by rfl) hw); exact rfl) | refine zsO ?_ | ((with_reducible apply At.callf); exact rfl; kernel_rfl; exact rfl; exact rfl; exact hcm; exact ztk; rintro v' m' B' hm' ⟨rfl, rfl, rfl⟩; skip) | (refine zsp ?_ ?_ <;> (intro hc; (try simp only [zhcs, reduceCtorEq] at hc); (try (exfalso; first | omega | contradiction | omega | exact absurd rfl hc | exact absurd (by decide) hc))))))
      all_goals ((with_reducible refine At.reachk ((⟨i, d⟩ : BS)) ?_ ?_ ?_ ?_); exact zsubs; exact zml; exact zente; exact ⟨⟨by show i ≤ d; omega, by show d ≤ l.length; omega, h3, fun _ => hk⟩, by show d - i < j - i; omega⟩)
  · obtain rfl : i = j := by omega
    have hp : pos l t = i := pos_eq h2 h3 h4
    rw [has_pos hs t, hp]
    by_cases hi : i < l.length
    · have hcm := cmpAt (m := m) (l[i]!) t
      by_cases he : (l[i]!).s = t
      · rw [show cmpS (l[i]!).s t = 0 by rw [he]; exact cmpS_eq t] at hcm
        rw [decide_eq_true (show i < l.length ∧ (l[i]!).s = t from ⟨hi, he⟩)]
        (repeat' (first | refine zss ?_ | refine zsO ?_ | ((with_reducible apply At.callf); exact rfl; kernel_rfl; exact rfl; exact rfl; exact hcm; exact ztk; rintro v' m' B' hm' ⟨rfl, rfl, rfl⟩; skip) | (refine zsp ?_ ?_ <;> (intro hc; (try simp only [zhcs, reduceCtorEq] at hc); (try (exfalso; first | omega | contradiction | omega | exact absurd rfl hc | exact absurd (by decide) hc))))))
        all_goals ((with_reducible apply At.retB2 (B := [.own cells 2 94 p c l])); (iterate 3 exact rfl); exact zml; exact zkp; exact ⟨rfl, rfl, rfl⟩)
      · have hne := cmpS_ne he
        generalize cmpS (l[i]!).s t = q at hcm hne
        rw [decide_eq_false (fun h : i < l.length ∧ (l[i]!).s = t => he h.2)]
        (repeat' (first | refine zss ?_ | refine zsO ?_ | ((with_reducible apply At.callf); exact rfl; kernel_rfl; exact rfl; exact rfl; exact hcm; exact ztk; rintro v' m' B' hm' ⟨rfl, rfl, rfl⟩; skip) | (refine zsp ?_ ?_ <;> (intro hc; (try simp only [zhcs, reduceCtorEq] at hc); (try (exfalso; first | omega | contradiction | omega | exact absurd rfl hc | exact absurd (by decide) hc))))))
        all_goals ((with_reducible apply At.retB2 (B := [.own cells 2 94 p c l])); (iterate 3 exact rfl); exact zml; exact zkp; exact ⟨by rw [decide_eq_false hne], rfl, rfl⟩)
    · rw [decide_eq_false (fun h : i < l.length ∧ (l[i]!).s = t => hi h.1)]
      (repeat' (first | refine zss ?_ | refine zsO ?_ | (refine zsp ?_ ?_ <;> (intro hc; (try simp only [zhcs, reduceCtorEq] at hc); (try (exfalso; first | omega | contradiction | omega | exact absurd rfl hc | exact absurd (by decide) hc))))))
      all_goals ((with_reducible apply At.retB2 (B := [.own cells 2 94 p c l])); (iterate 3 exact rfl); exact zml; exact zkp; exact ⟨rfl, rfl, rfl⟩)
theorem at_ {m : Mem} (p : Option Addr) (c : Nat) (l : List Nmd) (t : List UInt8) (hs : srt l) (hl : l.length ≤ 1000000) :
    Ct Tryz.prog 29 #[.slice p l.length c, .string (str t)] m [.own cells 2 94 p c l]
      (fun v m' B => v = .tuple #[.int .i64 (pos l t : Int), .bool (has l t)] ∧ m = m' ∧ B = [.own cells 2 94 p c l]) := by
  refine Ct.enterV (by rfl) Tryz.func29 rfl Tryz.ntmps29 rfl (fun w0 Rest => ?_)
  (repeat' (first | refine zss ?_ | refine zsO ?_ | ((with_reducible first | apply At.c1 | apply At.c0); exact rfl; exact rfl; exact search p c l t hs hl; exact ztk; kernel_rfl; rintro v' m' B' hm' ⟨rfl, rfl, rfl⟩; skip; (try (have hq0 : hm' = Mem.le_refl _ := rfl; clear hq0 hm'))) | (refine zsp ?_ ?_ <;> (intro hc; (try simp only [zhcs, reduceCtorEq] at hc); (try (exfalso; first | contradiction | omega | exact absurd rfl hc | exact absurd (by decide) hc))))))
  all_goals ((with_reducible apply At.retB2 (B := [.own cells 2 94 p c l])); (iterate 3 exact rfl); exact zml; exact zkp; exact ⟨rfl, rfl, rfl⟩)
theorem hasPre' (s t : List UInt8) : Pu Tryz.prog 79 #[.string (str s), .string (str t)] (.bool (decide (t <+: s))) := by
  refine Pu.intro fun m => ?_
  by_cases h : t.length ≤ s.length
  · have e : decide (t <+: s) = decide (s.take t.length = t) := by
      by_cases k : t <+: s
      · rw [decide_eq_true k, decide_eq_true ((List.prefix_iff_eq_take.1 k).symm)]
      · rw [decide_eq_false k, decide_eq_false fun k' => k (List.prefix_iff_eq_take.2 k'.symm)]
    rw [e]
    refine Ct.enterV (by rfl) Tryz.func79 rfl Tryz.ntmps79 rfl (fun w0 Rest => ?_)
    (repeat' (first | refine zss ?_ | refine zs0 ?_ | (refine zsp ?_ ?_ <;> (intro hc; (try simp only [zhcs, reduceCtorEq] at hc); (try (exfalso; first | omega | contradiction | omega | exact absurd rfl hc | exact absurd (by decide) hc))))))
    all_goals ((with_reducible apply At.retB1 (B := [])); exact rfl; exact rfl; exact zml; exact zkp; exact ⟨by simp, rfl, rfl⟩)
  · rw [decide_eq_false fun k => h k.length_le]
    refine Ct.enterV (by rfl) Tryz.func79 rfl Tryz.ntmps79 rfl (fun w0 Rest => ?_)
    (repeat' (first | refine zss ?_ | refine zs0 ?_ | (refine zsp ?_ ?_ <;> (intro hc; (try simp only [zhcs, reduceCtorEq] at hc); (try (exfalso; first | omega | contradiction | omega | exact absurd rfl hc | exact absurd (by decide) hc))))))
    all_goals ((with_reducible apply At.retB1 (B := [])); exact rfl; exact rfl; exact zml; exact zkp; exact ⟨rfl, rfl, rfl⟩)
theorem hasPre (s t : List UInt8) : Pu Tryz.prog 56 #[.string (str s), .string (str t)] (.bool (decide (t <+: s))) := by
  refine Pu.intro fun m => ?_
  refine Ct.enterV (by rfl) Tryz.func56 rfl Tryz.ntmps56 rfl (fun w0 Rest => ?_)
  (repeat' (first | refine zss ?_ | refine zs0 ?_ | ((with_reducible first | apply AtM1.callp | apply AtQ.callp | apply At.callp); kernel_rfl; exact rfl; exact rfl; exact hasPre' _ _) | (refine zsp ?_ ?_ <;> (intro hc; (try simp only [zhcs, reduceCtorEq] at hc); (try (exfalso; first | contradiction | omega | exact absurd rfl hc | exact absurd (by decide) hc))))))
  all_goals ((with_reducible apply At.retB1 (B := [])); exact rfl; exact rfl; exact zml; exact zkp; exact ⟨rfl, rfl, rfl⟩)
end Nm
end Go.Proofs.YtjdlnckifhifbaaGreat
