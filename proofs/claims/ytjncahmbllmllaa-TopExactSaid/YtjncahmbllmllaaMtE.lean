/- The contracts of matchers: Exact. -/
import Derived.Test.YtjncahmbllmllaaMtX
import Derived.Test.YtjncahmbllmllaaJT
set_option linter.unusedSimpArgs false
set_option linter.unusedVariables false
set_option linter.unusedSectionVars false
set_option maxRecDepth 20000
set_option maxHeartbeats 4000000
namespace Go.Proofs.Ytjncahmbllmllaa
open Go Go.J
attribute [local irreducible] At AtQ AtM AtM1 PR Ct Pu Rd Res.blk Res.own Res.ex RVs RV
namespace Lb
theorem mem_sins {P : List Lab} {x y : Lab} : y ∈ sins P x ↔ y = x ∨ y ∈ P := by
  unfold sins
  rw [List.mem_append, List.mem_append, List.mem_singleton]
  conv => rhs; rw [← List.take_append_drop (atF P x.n P.length) P, List.mem_append]
  constructor
  · rintro ((h | h) | h)
    · exact .inr (.inl h)
    · exact .inl h
    · exact .inr (.inr h)
  · rintro (h | h | h)
    · exact .inl (.inr h)
    · exact .inl (.inl h)
    · exact .inr h
theorem mem_fold {y : Lab} : ∀ (l P : List Lab), y ∈ l.foldl sins P ↔ y ∈ l ∨ y ∈ P
  | [], P => by simp
  | x :: l, P => by
    rw [List.foldl_cons, mem_fold l, mem_sins, List.mem_cons]
    constructor
    · rintro (h | h | h)
      · exact .inl (.inr h)
      · exact .inl (.inl h)
      · exact .inr h
    · rintro ((h | h) | h)
      · exact .inr (.inl h)
      · exact .inl h
      · exact .inr (.inr h)
theorem mem_srt {y : Lab} {l : List Lab} : y ∈ srtL l ↔ y ∈ l := by unfold srtL; rw [mem_fold]; simp
theorem Mid.to {l : List Lab} (h : Mid l) : ∀ x ∈ l, x.n.length ≤ 1000000000000 ∧ x.v.length ≤ 1000000000000 := fun x hx => by
  obtain ⟨i, hi, rfl⟩ := List.mem_iff_getElem.1 hx
  have := h i hi
  rwa [getElem!_pos l i hi] at this
theorem Mid.srt {l : List Lab} (h : Mid l) : Mid (srtL l) := Mid.of fun x hx => h.to x (mem_srt.1 hx)
theorem checkG {m : Mem} (p : Option Addr) (c n : Nat) (l : List Lab) (hn : l.length = n) (h : 16 < n) (sl0 : Sl m cells 2 p c l) :
    Rd Try.prog 7 #[.slice p n c] m [] (.int .i64 8) := by
  unfold Rd
  refine Ct.enterV (by rfl) Try.func7 rfl Try.ntmps7 rfl (fun w0 Rest => ?_)
  (repeat' (first | refine zss ?_ | refine zsM ?_ | ((with_reducible apply At.alloc (d := 5)); exact rfl; exact rfl; intro b5) | (refine zsp ?_ ?_ <;> (intro hc; (try simp only [zhcs, reduceCtorEq] at hc); (try (exfalso; first | omega | contradiction | omega | exact absurd rfl hc | exact absurd (by decide) hc))))))
  all_goals ((with_reducible apply At.retB1 (B := [])); exact rfl; exact rfl; exact zml; exact zkp; exact ⟨rfl, rfl, rfl⟩)
end Lb
namespace Mt
abbrev owL (p : Option Addr) (c : Nat) (l : List Lab) : Res := .own Lb.cells 2 29 p c l
def PostE (l : List Lab) (w : Bool) : Value → Mem → List Res → Prop := fun v m' B => B = [] ∧ ∃ p c, v = .tuple #[.slice p l.length c, .bool w] ∧ Sl m' Lb.cells 2 p c l
def Mids (ms : List Mat) : Prop := ∀ i, i < ms.length → Mid ms[i]!
theorem Mids.lab {ms : List Mat} (h : Mids ms) : Lb.Mid (ms.map lab) := Lb.Mid.of fun x hx => by
  obtain ⟨y, hy, rfl⟩ := List.mem_map.1 hx
  obtain ⟨i, hi, rfl⟩ := List.mem_iff_getElem.1 hy
  have := h i hi
  rwa [getElem!_pos ms i hi] at this
theorem not_right {l : List Lab} (h : 16 < l.length) : ¬ Lb.right l := fun k => by have := k.2.1; omega
theorem lab_snoc {ms : List Mat} {i : Nat} (h : i < ms.length) : (ms.take (i + 1)).map lab = (ms.take i).map lab ++ [lab ms[i]!] := by
  rw [Ls.take_snoc h, List.map_append]; rfl
theorem lab_len (ms : List Mat) (i : Nat) : ((ms.take i).map lab).length ≤ ms.length := by
  rw [List.length_map, List.length_take]; omega
set_option maxHeartbeats 1000000 in
theorem exactM {m : Mem} (q : Option Addr) (d : Nat) (ms : List Mat) (hm : ms.length ≤ 1000000) (hx : Mids ms) (sl0 : Sl m cells 3 q d ms) :
    Ct Try.prog 9 #[.slice q ms.length d] m [] (PostE (exL ms) (exB ms)) := by
  refine Ct.enterV (by rfl) Try.func9 rfl Try.ntmps9 rfl (fun w0 Rest => ?_)
  (repeat' (first | refine zss ?_ | refine zsM ?_ | ((with_reducible apply At.alloc (d := 6)); exact rfl; exact rfl; intro b6) | (refine zsp ?_ ?_ <;> (intro hc; (try simp only [zhcs, reduceCtorEq] at hc); (try (exfalso; first | contradiction | omega | exact absurd rfl hc | exact absurd (by decide) hc))))))
  refine At.own_nil Lb.cells 2 29 ?_
  (refine At.loopk (σ := PS) [7, 8] (fun s F0 => (4, .slice s.p ((ms.take s.i).map lab).length s.c) :: (9, .int .i64 (s.i : Int)) :: F0) (fun s => m) (fun s => owL s.p s.c ((ms.take s.i).map lab) :: Rest) (fun s => s.i ≤ ms.length ∧ ∀ j, j < s.i → ms[j]!.k = 1 ∧ ms[j]!.v ≠ []) (fun s => ms.length - s.i) ⟨0, none, 0⟩ (by rfl) ?_ zsubs zml zente ?_)
  · exact ⟨Nat.zero_le _, fun j h => absurd h (Nat.not_lt_zero j)⟩
  rintro ⟨i, p1, c1⟩ ⟨hi, hn⟩
  dsimp only at hi hn ⊢
  by_cases h : i < ms.length
  · by_cases e : ms[i]!.k = 1 ∧ ms[i]!.v ≠ []
    · have hs := lab_snoc h
      have hln := lab_len ms i
      generalize (ms.take i).map lab = Y at hs hln ⊢
      have e1 := e.1
      have e2 := e.2
      (repeat' (first | refine zss ?_ | refine zsM ?_ | ((with_reducible apply At.litF Lb.cells [lab ms[i]!]); exact inferInstance; (iterate 7 exact rfl); intro b' m' hm' sl2; (try replace sl0 := sl0.mono hm'); (try replace sl3 := sl3.mono hm'); (try replace sl4 := sl4.mono hm')) | ((with_reducible apply At.apW (f := Lb.cells) (l := Y)); exact rfl; exact rfl; exact (by repeat constructor); exact inferInstance; exact zrdl; (iterate 4 exact rfl); exact zom; exact rfl; intro p2 c2) | ((with_reducible apply At.alloc (d := 6)); exact rfl; exact rfl; intro b6) | (refine zsp ?_ ?_ <;> (intro hc; (try simp only [zhcs, reduceCtorEq] at hc); (try (exfalso; first | (first | omega | exact absurd (str_inj (b := []) |>.1 hc) e2) | contradiction | omega | exact absurd rfl hc | exact absurd (by decide) hc))))))
      all_goals rw [← hs]
      all_goals ((with_reducible refine At.reachk ((⟨i + 1, p2, c2⟩ : PS)) ?_ ?_ ?_ ?_); exact zsubs; exact zml; exact zente; exact ⟨⟨h, fun j hj => by
        by_cases e3 : j = i
        · subst e3; exact e
        · exact hn j (by have : j < i + 1 := hj; omega)⟩, by dsimp only; omega⟩)
    · obtain ⟨f1, f2⟩ := ex_no (ms := ms) fun k => e (k.1 i h)
      rw [f1, f2]
      by_cases e1 : ms[i]!.k = 1
      · have e2 : ms[i]!.v = [] := by
          by_cases e2 : ms[i]!.v = []
          · exact e2
          · exact absurd ⟨e1, e2⟩ e
        (repeat' (first | refine zss ?_ | refine zsM ?_ | ((with_reducible apply At.alloc (d := 6)); exact rfl; exact rfl; intro b6) | (refine zsp ?_ ?_ <;> (intro hc; (try simp only [zhcs, reduceCtorEq] at hc); (try (exfalso; first | (first | omega | exact hc (str_inj (b := []) |>.2 e2)) | contradiction | omega | exact absurd rfl hc | exact absurd (by decide) hc))))))
        all_goals ((with_reducible apply At.retV (B := [])); exact rfl; (repeat' (first | exact RVs.nil | (with_reducible apply RVs.cons) | exact rv_tmp (by rfl) | exact rv_cellN (by rfl) (by repeat constructor) (by rfl) (by rfl) (by rfl) | exact rv_cell1 (by rfl) (by repeat constructor) (by rfl) (by rfl))); exact zml; exact zkp; exact ⟨rfl, none, 0, rfl, Sl.empty _ inferInstance⟩)
      · (repeat' (first | refine zss ?_ | refine zsM ?_ | ((with_reducible apply At.alloc (d := 6)); exact rfl; exact rfl; intro b6) | (refine zsp ?_ ?_ <;> (intro hc; (try simp only [zhcs, reduceCtorEq] at hc); (try (exfalso; first | omega | contradiction | omega | exact absurd rfl hc | exact absurd (by decide) hc))))))
        all_goals ((with_reducible apply At.retV (B := [])); exact rfl; (repeat' (first | exact RVs.nil | (with_reducible apply RVs.cons) | exact rv_tmp (by rfl) | exact rv_cellN (by rfl) (by repeat constructor) (by rfl) (by rfl) (by rfl) | exact rv_cell1 (by rfl) (by repeat constructor) (by rfl) (by rfl))); exact zml; exact zkp; exact ⟨rfl, none, 0, rfl, Sl.empty _ inferInstance⟩)
  · have hi : i = ms.length := by omega
    subst hi
    rw [List.take_length]
    have hle : (ms.map lab).length = ms.length := List.length_map ..
    have heq : eqs ms := hn
    have hmid := hx.lab
    have hsl := len_lab ms
    have hno := ex_no (ms := ms)
    have hyes := ex_yes (ms := ms)
    have hcn := @Lb.chk_right (Lb.srtL (ms.map lab))
    generalize hY : ms.map lab = Y at hle hmid hsl hno hyes hcn ⊢
    clear hn
    by_cases h16 : ms.length ≤ 16
    · have h1 := fun (m' : Mem) (sl : Sl m' Lb.cells 2 p1 c1 Y) => Lb.sortX p1 c1 Y (by omega) sl
      have h2 := fun (m' : Mem) p c sl => Lb.check (m := m') p c (Lb.srtL Y) hmid.srt sl
      by_cases hr : Lb.right (Lb.srtL Y)
      · rw [Lb.chk_ok hr] at h2
        rw [(hyes ⟨heq, hr⟩).1, (hyes ⟨heq, hr⟩).2]
        generalize Lb.srtL Y = Z at h1 h2 hsl ⊢
        (refine At.own_freeze inferInstance (by repeat constructor) fun m' hm' sl3 => ?_; (try replace sl0 := sl0.mono hm'); (try replace sl2 := sl2.mono hm'); (try replace sl4 := sl4.mono hm'))
        (repeat' (first | refine zss ?_ | refine zsM ?_ | ((with_reducible first | apply At.c1 | apply At.c0); exact rfl; exact rfl; exact h1 _ sl3; exact ztk; kernel_rfl; rintro v' m' B' hm' ⟨rfl, p2, c2, rfl, sl4⟩; (try replace sl0 := sl0.mono hm'); (try replace sl2 := sl2.mono hm'); (try replace sl3 := sl3.mono hm'); (try replace sl4 := sl4.mono hm'); (try (have hq0 : hm' = Mem.le_refl _ := rfl; clear hq0 hm'))) | ((with_reducible first | apply AtM1.cr | apply AtQ.cr | apply At.cr); exact rfl; exact rfl; exact fun _ hmm => h2 _ _ _ (sl4.mono hmm); exact ztk; kernel_rfl) | ((with_reducible apply At.alloc (d := 6)); exact rfl; exact rfl; intro b6) | (refine zsp ?_ ?_ <;> (intro hc; (try simp only [zhcs, reduceCtorEq] at hc); (try (exfalso; first | omega | contradiction | omega | exact absurd rfl hc | exact absurd (by decide) hc))))))
        all_goals ((with_reducible apply At.retV (B := [])); exact rfl; (repeat' (first | exact RVs.nil | (with_reducible apply RVs.cons) | exact rv_tmp (by rfl) | exact rv_cellN (by rfl) (by repeat constructor) (by rfl) (by rfl) (by rfl) | exact rv_cell1 (by rfl) (by repeat constructor) (by rfl) (by rfl))); exact zml; exact zkp; exact ⟨rfl, p2, c2, rfl, sl4⟩)
      · rw [(hno fun k => hr k.2).1, (hno fun k => hr k.2).2]
        have hcz : Lb.chk (Lb.srtL Y) ≠ 0 := fun k => hr (hcn.1 k)
        generalize Lb.chk (Lb.srtL Y) = r at h2 hcz
        generalize Lb.srtL Y = Z at h1 h2 hsl
        (refine At.own_freeze inferInstance (by repeat constructor) fun m' hm' sl3 => ?_; (try replace sl0 := sl0.mono hm'); (try replace sl2 := sl2.mono hm'); (try replace sl4 := sl4.mono hm'))
        (repeat' (first | refine zss ?_ | refine zsM ?_ | ((with_reducible first | apply At.c1 | apply At.c0); exact rfl; exact rfl; exact h1 _ sl3; exact ztk; kernel_rfl; rintro v' m' B' hm' ⟨rfl, p2, c2, rfl, sl4⟩; (try replace sl0 := sl0.mono hm'); (try replace sl2 := sl2.mono hm'); (try replace sl3 := sl3.mono hm'); (try replace sl4 := sl4.mono hm'); (try (have hq0 : hm' = Mem.le_refl _ := rfl; clear hq0 hm'))) | ((with_reducible first | apply AtM1.cr | apply AtQ.cr | apply At.cr); exact rfl; exact rfl; exact fun _ hmm => h2 _ _ _ (sl4.mono hmm); exact ztk; kernel_rfl) | ((with_reducible apply At.alloc (d := 6)); exact rfl; exact rfl; intro b6) | (refine zsp ?_ ?_ <;> (intro hc; (try simp only [zhcs, reduceCtorEq] at hc); (try (exfalso; first | omega | contradiction | omega | exact absurd rfl hc | exact absurd (by decide) hc))))))
        all_goals ((with_reducible apply At.retV (B := [])); exact rfl; (repeat' (first | exact RVs.nil | (with_reducible apply RVs.cons) | exact rv_tmp (by rfl) | exact rv_cellN (by rfl) (by repeat constructor) (by rfl) (by rfl) (by rfl) | exact rv_cell1 (by rfl) (by repeat constructor) (by rfl) (by rfl))); exact zml; exact zkp; exact ⟨rfl, none, 0, rfl, Sl.empty _ inferInstance⟩)
    · have hr : ¬ Lb.right (Lb.srtL Y) := not_right (by omega)
      rw [(hno fun k => hr k.2).1, (hno fun k => hr k.2).2]
      have h1 := fun (m' : Mem) (sl : Sl m' Lb.cells 2 p1 c1 Y) => Lb.sortG p1 c1 Y Y.length rfl (by omega) sl
      have h2 := fun (m' : Mem) p c l hl sl => Lb.checkG (m := m') p c Y.length l hl (by omega) sl
      (refine At.own_freeze inferInstance (by repeat constructor) fun m' hm' sl3 => ?_; (try replace sl0 := sl0.mono hm'); (try replace sl2 := sl2.mono hm'); (try replace sl4 := sl4.mono hm'))
      (repeat' (first | refine zss ?_ | refine zsM ?_ | ((with_reducible first | apply At.c1 | apply At.c0); exact rfl; exact rfl; exact h1 _ sl3; exact ztk; kernel_rfl; rintro v' m' B' hm' ⟨rfl, l2, p2, c2, rfl, hl2, sl4⟩; (try replace sl0 := sl0.mono hm'); (try replace sl2 := sl2.mono hm'); (try replace sl3 := sl3.mono hm'); (try replace sl4 := sl4.mono hm'); (try (have hq0 : hm' = Mem.le_refl _ := rfl; clear hq0 hm'))) | ((with_reducible first | apply AtM1.cr | apply AtQ.cr | apply At.cr); exact rfl; exact rfl; exact fun _ hmm => h2 _ p2 c2 l2 hl2 (sl4.mono hmm); exact ztk; kernel_rfl) | ((with_reducible apply At.alloc (d := 6)); exact rfl; exact rfl; intro b6) | (refine zsp ?_ ?_ <;> (intro hc; (try simp only [zhcs, reduceCtorEq] at hc); (try (exfalso; first | omega | contradiction | omega | exact absurd rfl hc | exact absurd (by decide) hc))))))
      all_goals ((with_reducible apply At.retV (B := [])); exact rfl; (repeat' (first | exact RVs.nil | (with_reducible apply RVs.cons) | exact rv_tmp (by rfl) | exact rv_cellN (by rfl) (by repeat constructor) (by rfl) (by rfl) (by rfl) | exact rv_cell1 (by rfl) (by repeat constructor) (by rfl) (by rfl))); exact zml; exact zkp; exact ⟨rfl, none, 0, rfl, Sl.empty _ inferInstance⟩)
end Mt
end Go.Proofs.Ytjncahmbllmllaa
