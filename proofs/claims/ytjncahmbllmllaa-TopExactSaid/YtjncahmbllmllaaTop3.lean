/- TopExact: the plain law, and as it is walked. -/
import Derived.Test.YtjncahmbllmllaaMtL
import Derived.Test.YtjncahmbllmllaaLbU
import Derived.Test.YtjncahmbllmllaaMtD
import Derived.Test.YtjncahmbllmllaaJT
set_option linter.unusedSimpArgs false
set_option linter.unusedVariables false
set_option linter.unusedSectionVars false
set_option maxRecDepth 20000
set_option maxHeartbeats 4000000
namespace Go.Proofs.Ytjncahmbllmllaa
open Go Go.J
attribute [local irreducible] At AtQ AtM AtM1 PR Ct Pu Rd Res.blk Res.own Res.ex RVs RV Cod.W
namespace Top3
open Lb (bytesL bodyL right few chk check chk_ok chk_right rot rot_perm rot_len rot_at srt_right val_right)
open Mt (SL exactC mids1 hitC Mids lab eqs hit hit1 all exL exB ex_yes pickI pickI_snoc Lbs)
abbrev lX : List Lab := [⟨[97], [120]⟩]
abbrev eX : Mat := ⟨1, [97], [120]⟩
abbrev bX : Mat := ⟨3, [98], []⟩
theorem mid_lX : Lb.Mid lX := fun i hi => by
  have : i = 0 := by simpa using hi
  subst this; exact ⟨by decide, by decide⟩
theorem bytes_lX : bytesL lX = [1, 1, 97, 1, 120] := by
  unfold bytesL bodyL
  rw [show lX.length = 1 from rfl, Cod.uintB_lt (by decide)]
  show _ ++ ((Cod.textB [97] ++ Cod.textB [120]) ++ []) = _
  unfold Cod.textB
  rw [show ([97] : List UInt8).length = 1 from rfl, show ([120] : List UInt8).length = 1 from rfl, Cod.uintB_lt (by decide)]
  rfl
theorem bytesC {m : Mem} (p : Option Addr) (c : Nat) (sl0 : Sl m Lb.cells 2 p c lX) :
    Rd Try.prog 16 #[.slice p 1 c] m [] (.tuple #[.string (str [1, 1, 97, 1, 120]), .int .i64 0]) := by
  have h := Lb.bytes p c lX mid_lX sl0
  rw [if_pos (by decide), chk_ok (by decide), bytes_lX] at h
  exact h
theorem sameC {m : Mem} (p : Option Addr) (c n : Nat) (a : List Lab) (q : Option Addr) (d k : Nat) (hl : a.length ≤ 1000000000) (hn : a.length = n) (hk : a.length = k) (sl0 : Sl m Lb.cells 2 p c a) (sl1 : Sl m Lb.cells 2 q d a) :
    Rd Try.prog 11 #[.slice p n c, .slice q k d] m [] (.bool true) := by
  have h := Lb.same p c a q d a hl hl sl0 sl1
  rw [decide_eq_true rfl] at h
  subst hn
  rw [← hk]; exact h
set_option maxHeartbeats 4000000 in
theorem begins : Pu Try.prog 5 #[] (.bool true) := Pu.of_le fun m => by
  refine Ct.enterV (by rfl) Try.func5 rfl Try.ntmps5 rfl (fun w0 Rest => ?_)
  (repeat' (first | refine zss ?_ | refine zsM ?_ | ((with_reducible apply At.litF Lb.cells lX); exact inferInstance; (iterate 7 exact rfl); intro b' m' hm' sl1; (try replace sl2 := sl2.mono hm'); (try replace sl5 := sl5.mono hm')) | ((with_reducible apply At.litF Mt.cells [eX]); exact inferInstance; (iterate 7 exact rfl); intro b' m' hm' sl2; (try replace sl1 := sl1.mono hm'); (try replace sl5 := sl5.mono hm')) | ((with_reducible first | apply AtM1.cr | apply AtQ.cr | apply At.cr); exact rfl; exact rfl; exact fun _ hmm => bytesC _ _ (sl1.mono hmm); exact ztk; kernel_rfl) | ((with_reducible first | apply At.c1 | apply At.c0); exact rfl; exact rfl; exact exactC _ _ 1 [eX] lX 1 true (by decide) (mids1 _ ⟨by decide, by decide⟩) rfl (by decide) (by decide) rfl sl2; exact ztk; kernel_rfl; rintro v' m' B' hm' ⟨rfl, p5, c5, rfl, sl5⟩; (try replace sl1 := sl1.mono hm'); (try replace sl2 := sl2.mono hm'); (try replace sl5 := sl5.mono hm'); (try (have hq0 : hm' = Mem.le_refl _ := rfl; clear hq0 hm'))) | ((with_reducible first | apply AtM1.cr | apply AtQ.cr | apply At.cr); exact rfl; exact rfl; exact fun _ hmm => sameC _ _ 1 lX _ _ 1 (by decide) rfl rfl (sl5.mono hmm) (sl1.mono hmm); exact ztk; kernel_rfl) | ((with_reducible first | apply AtM1.cr | apply AtQ.cr | apply At.cr); exact rfl; exact rfl; exact fun _ hmm => hitC bX _ _ 1 lX true (by decide) rfl (by decide) (sl1.mono hmm); exact ztk; kernel_rfl) | (refine zsp ?_ ?_ <;> (intro hc; (try simp only [zhcs, reduceCtorEq] at hc); (try (exfalso; first | contradiction | omega | exact absurd rfl hc | exact absurd (by decide) hc))))))
  all_goals ((with_reducible apply At.retB1 (B := [])); exact rfl; exact rfl; exact zml; exact zkp; exact ⟨rfl, zml, rfl⟩)
/-- a label's matcher -/
def mt (x : Lab) : Mat := ⟨1, x.n, x.v⟩
theorem lab_mt (l : List Lab) : (l.map mt).map lab = l := by
  rw [List.map_map]
  conv => rhs; rw [← List.map_id l]
  exact List.map_congr_left fun x _ => rfl
theorem eqs_mt {l : List Lab} (h : ∀ x ∈ l, x.v ≠ []) : eqs (l.map mt) := fun i hi => by
  rw [getElem!_pos _ i hi, List.getElem_map]
  rw [List.length_map] at hi
  exact ⟨rfl, h _ (List.getElem_mem hi)⟩
theorem hit_mt (x : Lab) (o : List Lab) : hit (mt x) o = decide (Lb.val o x.n = x.v) := hit1 rfl
theorem all_mem {ms : List Mat} {o : List Lab} : all ms o = true ↔ ∀ x ∈ ms, hit x o = true := by
  unfold all
  rw [decide_eq_true_eq]
  constructor
  · intro h x hx
    obtain ⟨i, hi, rfl⟩ := List.mem_iff_getElem.1 hx
    have := h i hi
    rwa [getElem!_pos ms i hi] at this
  · intro h i hi
    exact h _ (Ls.mem! hi)
theorem exact_rot {l : List Lab} (h : Lb.right l) (k : Nat) (hv : ∀ x ∈ l, x.v ≠ []) : exL ((rot l k).map mt) = l ∧ exB ((rot l k).map mt) = true := by
  have hs : Lb.srtL (((rot l k).map mt).map lab) = l := by rw [lab_mt]; exact srt_right h (rot_perm l k)
  have := ex_yes (ms := (rot l k).map mt) ⟨eqs_mt fun x hx => hv x ((rot_perm l k).subset hx), by rw [hs]; exact h⟩
  exact ⟨by rw [this.2, hs], this.1⟩
theorem all_self {l : List Lab} (h : Lb.right l) (k : Nat) : all ((rot l k).map mt) l = true := all_mem.2 fun x hx => by
  obtain ⟨y, hy, rfl⟩ := List.mem_map.1 hx
  rw [hit_mt]
  exact decide_eq_true (val_right h ((rot_perm l k).subset hy))
theorem all_nil {l : List Lab} (h : Lb.right l) (k : Nat) (hv : ∀ x ∈ l, x.v ≠ []) : all ((rot l k).map mt) [] = false := by
  cases e : all ((rot l k).map mt) [] with
  | false => rfl
  | true =>
    have h1 := h.1
    have hr := rot_len l k
    have hx : (rot l k)[0]! ∈ rot l k := Ls.mem! (by omega)
    have := all_mem.1 e _ (List.mem_map.2 ⟨_, hx, rfl⟩)
    rw [hit_mt] at this
    exact absurd (of_decide_eq_true this).symm (hv _ ((rot_perm l k).subset hx))
theorem chk_one {l : List Lab} (h : Lb.right l) {x : Lab} (hx : x ∈ l) : Lb.chk [x] = 0 := by
  obtain ⟨i, hi, rfl⟩ := List.mem_iff_getElem.1 hx
  have h1 := of_decide_eq_true (h.2.2.1 i hi)
  have h2 := Lb.tot_take_le l (i + 1)
  have h3 := Lb.tot_take hi
  have h4 := h.2.2.2
  rw [getElem!_pos l i hi] at h1 h3
  refine Lb.chk_ok ⟨Nat.le_refl 1, (by decide : 1 ≤ 16), fun j hj => ?_, ?_⟩
  · have : j = 0 := by simpa using hj
    subst this
    exact decide_eq_true ⟨h1.1, h1.2.1, fun k => absurd k (Nat.lt_irrefl 0)⟩
  · show (([l[i]].map fun x => x.n.length + x.v.length).sum ≤ 256)
    simp
    omega
theorem check_rot {l : List Lab} (h : Lb.right l) (k : Nat) : Mt.chk ((rot l k).map mt) = 0 := if_pos ⟨by rw [List.length_map, rot_len]; exact h.2.1, fun i hi => by
  rw [getElem!_pos _ i hi, List.getElem_map]
  rw [List.length_map] at hi
  exact decide_eq_true ⟨⟨Nat.le_refl 1, (by decide : 1 ≤ 3)⟩, chk_one h ((rot_perm l k).subset (List.getElem_mem hi))⟩⟩
theorem mids_rot {l : List Lab} (h : Lb.Mid l) (k : Nat) : Mids ((rot l k).map mt) := fun i hi => by
  rw [getElem!_pos _ i hi, List.getElem_map]
  rw [List.length_map] at hi
  exact h.to _ ((rot_perm l k).subset (List.getElem_mem hi))
def msA (r : List Lab) (i : Nat) : List Mat := (r.take i).map mt
theorem msA_snoc {r : List Lab} {i : Nat} (h : i < r.length) : msA r (i + 1) = msA r i ++ [mt r[i]!] := by
  unfold msA; rw [Ls.take_snoc h, List.map_append]; rfl
theorem picked {l o : List Lab} (h : Lb.right l) (k : Nat) (hv : ∀ x ∈ l, x.v ≠ []) (p q : Option Addr) (c d : Nat) :
    pickI ((rot l k).map mt) [⟨o, p, c⟩, ⟨l, q, d⟩, ⟨[], none, 0⟩] 3 = if all ((rot l k).map mt) o then [0, 1] else [1] := by
  have h1 := all_self h k
  have h2 := all_nil h k hv
  generalize (rot l k).map mt = M at *
  rw [pickI_snoc, pickI_snoc, pickI_snoc]
  rw [show all M ([⟨o, p, c⟩, ⟨l, q, d⟩, ⟨[], none, 0⟩] : List SL)[0]!.l = all M o from rfl, show all M ([⟨o, p, c⟩, ⟨l, q, d⟩, ⟨[], none, 0⟩] : List SL)[1]!.l = all M l from rfl, show all M ([⟨o, p, c⟩, ⟨l, q, d⟩, ⟨[], none, 0⟩] : List SL)[2]!.l = all M [] from rfl, h1, h2]
  cases all M o <;> rfl
theorem str_dec (a b : List UInt8) : decide (str a = str b) = decide (a = b) := by rw [decide_eq_decide]; exact str_inj
structure XS where
  (i : Nat) (p : Option Addr) (c : Nat)
abbrev owM (p : Option Addr) (c : Nat) (l : List Mat) : Res := .own Mt.cells 3 33 p c l
theorem lbs_3 {m : Mem} {p q : Option Addr} {c d : Nat} {o l : List Lab} (ho : o.length ≤ 1000000000) (hl : l.length ≤ 1000000000) (s1 : Sl m Lb.cells 2 p c o) (s2 : Sl m Lb.cells 2 q d l) : Lbs m [⟨o, p, c⟩, ⟨l, q, d⟩, ⟨[], none, 0⟩] := fun i hi => by
  have : i = 0 ∨ i = 1 ∨ i = 2 := by have : i < 3 := hi; omega
  rcases this with rfl | rfl | rfl
  · exact ⟨ho, s1⟩
  · exact ⟨hl, s2⟩
  · exact ⟨Nat.zero_le _, Sl.empty _ inferInstance⟩
set_option maxHeartbeats 8000000 in
theorem exactT {m : Mem} (p : Option Addr) (c : Nat) (l : List Lab) (q : Option Addr) (d : Nat) (o : List Lab) (at' : Int) (hat : -9223372036854775808 ≤ at' ∧ at' ≤ 9223372036854775807) (sl0 : Sl m Lb.cells 2 p c l) (sl1 : Sl m Lb.cells 2 q d o) :
    Ct Try.prog 3 #[.slice p l.length c, .slice q o.length d, .int .i64 at'] m [] (fun v m' B => v = .bool true ∧ B = []) := by
  have hbg := begins
  have hs1 := fun (m' : Mem) (hm' : m.le m') => Lb.small (m := m') p c l (sl0.mono hm')
  have hs2 := fun (m' : Mem) (hm' : m.le m') => Lb.small (m := m') q d o (sl1.mono hm')
  by_cases hf : few l
  rotate_left
  · rw [if_neg hf] at hs1
    refine Ct.enterV (by rfl) Try.func3 rfl Try.ntmps3 rfl (fun w0 Rest => ?_)
    (repeat' (first | refine zss ?_ | refine zsM ?_ | ((with_reducible first | apply AtM1.callp | apply AtQ.callp | apply At.callp); kernel_rfl; exact rfl; exact rfl; exact hbg) | ((with_reducible first | apply AtM1.cr | apply AtQ.cr | apply At.cr); exact rfl; exact rfl; exact fun _ hmm => hs1 _ hmm; exact ztk; kernel_rfl) | ((with_reducible apply At.alloc (d := 10)); exact rfl; exact rfl; intro b10) | (refine zsp ?_ ?_ <;> (intro hc; (try simp only [zhcs, reduceCtorEq] at hc); (try (exfalso; first | omega | contradiction | omega | exact absurd rfl hc | exact absurd (by decide) hc))))))
    all_goals ((with_reducible apply At.retB1 (B := [])); exact rfl; exact rfl; exact zml; exact zkp; exact ⟨rfl, rfl⟩)
  rw [if_pos hf] at hs1
  by_cases hfo : few o
  rotate_left
  · rw [if_neg hfo] at hs2
    refine Ct.enterV (by rfl) Try.func3 rfl Try.ntmps3 rfl (fun w0 Rest => ?_)
    (repeat' (first | refine zss ?_ | refine zsM ?_ | ((with_reducible first | apply AtM1.callp | apply AtQ.callp | apply At.callp); kernel_rfl; exact rfl; exact rfl; exact hbg) | ((with_reducible first | apply AtM1.cr | apply AtQ.cr | apply At.cr); exact rfl; exact rfl; exact fun _ hmm => hs1 _ hmm; exact ztk; kernel_rfl) | ((with_reducible first | apply AtM1.cr | apply AtQ.cr | apply At.cr); exact rfl; exact rfl; exact fun _ hmm => hs2 _ hmm; exact ztk; kernel_rfl) | ((with_reducible apply At.alloc (d := 10)); exact rfl; exact rfl; intro b10) | (refine zsp ?_ ?_ <;> (intro hc; (try simp only [zhcs, reduceCtorEq] at hc); (try (exfalso; first | omega | contradiction | omega | exact absurd rfl hc | exact absurd (by decide) hc))))))
    all_goals ((with_reducible apply At.retB1 (B := [])); exact rfl; exact rfl; exact zml; exact zkp; exact ⟨rfl, rfl⟩)
  rw [if_pos hfo] at hs2
  have hk := fun (m' : Mem) (hm' : m.le m') => check (m := m') p c l hf.mid (sl0.mono hm')
  by_cases hr : right l
  rotate_left
  · have hd : chk l ≠ 0 := fun k => hr (chk_right.1 k)
    generalize chk l = w at hk hd
    refine Ct.enterV (by rfl) Try.func3 rfl Try.ntmps3 rfl (fun w0 Rest => ?_)
    (repeat' (first | refine zss ?_ | refine zsM ?_ | ((with_reducible first | apply AtM1.callp | apply AtQ.callp | apply At.callp); kernel_rfl; exact rfl; exact rfl; exact hbg) | ((with_reducible first | apply AtM1.cr | apply AtQ.cr | apply At.cr); exact rfl; exact rfl; exact fun _ hmm => hs1 _ hmm; exact ztk; kernel_rfl) | ((with_reducible first | apply AtM1.cr | apply AtQ.cr | apply At.cr); exact rfl; exact rfl; exact fun _ hmm => hs2 _ hmm; exact ztk; kernel_rfl) | ((with_reducible first | apply AtM1.cr | apply AtQ.cr | apply At.cr); exact rfl; exact rfl; exact fun _ hmm => hk _ hmm; exact ztk; kernel_rfl) | ((with_reducible apply At.alloc (d := 10)); exact rfl; exact rfl; intro b10) | (refine zsp ?_ ?_ <;> (intro hc; (try simp only [zhcs, reduceCtorEq] at hc); (try (exfalso; first | (first | omega | exact absurd hc hd) | contradiction | omega | exact absurd rfl hc | exact absurd (by decide) hc))))))
    all_goals ((with_reducible apply At.retB1 (B := [])); exact rfl; exact rfl; exact zml; exact zkp; exact ⟨rfl, rfl⟩)
  rw [chk_ok hr] at hk
  by_cases ha : 0 ≤ at' ∧ at' ≤ l.length
  rotate_left
  · refine Ct.enterV (by rfl) Try.func3 rfl Try.ntmps3 rfl (fun w0 Rest => ?_)
    (repeat' (first | refine zss ?_ | refine zsM ?_ | ((with_reducible first | apply AtM1.callp | apply AtQ.callp | apply At.callp); kernel_rfl; exact rfl; exact rfl; exact hbg) | ((with_reducible first | apply AtM1.cr | apply AtQ.cr | apply At.cr); exact rfl; exact rfl; exact fun _ hmm => hs1 _ hmm; exact ztk; kernel_rfl) | ((with_reducible first | apply AtM1.cr | apply AtQ.cr | apply At.cr); exact rfl; exact rfl; exact fun _ hmm => hs2 _ hmm; exact ztk; kernel_rfl) | ((with_reducible first | apply AtM1.cr | apply AtQ.cr | apply At.cr); exact rfl; exact rfl; exact fun _ hmm => hk _ hmm; exact ztk; kernel_rfl) | ((with_reducible apply At.alloc (d := 10)); exact rfl; exact rfl; intro b10) | (refine zsp ?_ ?_ <;> (intro hc; (try simp only [zhcs, reduceCtorEq] at hc); (try (exfalso; first | omega | contradiction | omega | exact absurd rfl hc | exact absurd (by decide) hc))))))
    all_goals ((with_reducible apply At.retB1 (B := [])); exact rfl; exact rfl; exact zml; exact zkp; exact ⟨rfl, rfl⟩)
  obtain ⟨k, rfl⟩ : ∃ k : Nat, at' = (k : Int) := ⟨at'.toNat, by omega⟩
  have hln : l.length ≤ 16 := hr.2.1
  have hol : o.length ≤ 40 := hfo.1
  have hrl := rot_len l k
  obtain ⟨r, hR⟩ : ∃ r, rot l k = r := ⟨_, rfl⟩
  rw [hR] at hrl
  refine Ct.enterV (by rfl) Try.func3 rfl Try.ntmps3 rfl (fun w0 Rest => ?_)
  (repeat' (first | refine zss ?_ | refine zsM ?_ | ((with_reducible first | apply AtM1.callp | apply AtQ.callp | apply At.callp); kernel_rfl; exact rfl; exact rfl; exact hbg) | ((with_reducible first | apply AtM1.cr | apply AtQ.cr | apply At.cr); exact rfl; exact rfl; exact fun _ hmm => hs1 _ hmm; exact ztk; kernel_rfl) | ((with_reducible first | apply AtM1.cr | apply AtQ.cr | apply At.cr); exact rfl; exact rfl; exact fun _ hmm => hs2 _ hmm; exact ztk; kernel_rfl) | ((with_reducible first | apply AtM1.cr | apply AtQ.cr | apply At.cr); exact rfl; exact rfl; exact fun _ hmm => hk _ hmm; exact ztk; kernel_rfl) | ((with_reducible apply At.alloc (d := 10)); exact rfl; exact rfl; intro b10) | (refine zsp ?_ ?_ <;> (intro hc; (try simp only [zhcs, reduceCtorEq] at hc); (try (exfalso; first | omega | contradiction | omega | exact absurd rfl hc | exact absurd (by decide) hc))))))
  refine At.own_nil Mt.cells 3 33 ?_
  (refine At.loopk (σ := XS) [0, 1, 2, 40] (fun s F0 => (7, .slice s.p (msA r s.i).length s.c) :: (8, .bool (all (msA r s.i) o)) :: (41, .int .i64 (s.i : Int)) :: F0) (fun s => m) (fun s => owM s.p s.c (msA r s.i) :: Rest) (fun s => s.i ≤ l.length ∧ ∀ j, j < s.i → r[j]!.v ≠ []) (fun s => l.length - s.i) ⟨0, none, 0⟩ (by rfl) ?_ zsubs zml zente ?_)
  · exact ⟨Nat.zero_le _, fun j h => absurd h (Nat.not_lt_zero j)⟩
  rintro ⟨i, p1, c1⟩ ⟨hi, hn⟩
  dsimp only at hi hn ⊢
  by_cases h : i < l.length
  · have hx := rot_at (l := l) (k := k) (i := i) (by omega) h
    rw [hR] at hx
    have hw1 : IntKind.wrap .i64 ((i : Int) + (k : Int)) = ((i + k : Nat) : Int) := by rw [← Int.natCast_add]; exact IntWalk.i64_in _ (by omega)
    have hw2 : (((i + k : Nat) : Int)).tmod (l.length : Int) = (((i + k) % l.length : Nat) : Int) := by rw [Int.tmod_eq_emod_of_nonneg (by omega)]; rfl
    have hlt := Nat.mod_lt (i + k) (show l.length > 0 by omega)
    have hms := msA_snoc (r := r) (i := i) (by omega)
    have hv := fun (m' : Mem) (hm' : m.le m') => Lb.value (m := m') q d o r[i]!.n (by omega) (sl1.mono hm')
    have hal : all (msA r (i + 1)) o = (all (msA r i) o && decide (Lb.val o r[i]!.n = r[i]!.v)) := by rw [hms, Mt.all_snoc, hit_mt]
    have hml : (msA r i).length ≤ 16 := by unfold msA; rw [List.length_map, List.length_take]; omega
    generalize (i + k) % l.length = y at hx hw2 hlt
    rw [← hx] at hv hal hms
    generalize Lb.val o l[y]!.n = V at hv hal
    by_cases hvv : l[y]!.v = []
    · (repeat' (first | refine zss ?_ | ((first | (with_reducible first | apply At.val | apply AtQ.val)); (first | exact pr_add (by rfl) (by rfl) hw1 | exact pr_rem (by rfl) (by rfl) (by omega) hw2); exact rfl) | refine zsM ?_ | ((with_reducible apply At.alloc (d := 10)); exact rfl; exact rfl; intro b10) | (refine zsp ?_ ?_ <;> (intro hc; (try simp only [zhcs, reduceCtorEq] at hc); (try (exfalso; first | (first | omega | exact hc ((str_inj (b := [])).2 hvv)) | contradiction | omega | exact absurd rfl hc | exact absurd (by decide) hc))))))
      all_goals ((with_reducible apply At.retB1 (B := [])); exact rfl; exact rfl; exact zml; exact zkp; exact ⟨rfl, rfl⟩)
    · have hnn : ∀ j, j < i + 1 → r[j]!.v ≠ [] := fun j hj => by
        by_cases e : j = i
        · subst e; rw [← hx]; exact hvv
        · exact hn j (by omega)
      generalize msA r i = Y at hms hal hml ⊢
      cases hA : all Y o
      all_goals
        rw [hA] at hal
        first
          | (rw [Bool.false_and] at hal)
          | (rw [Bool.true_and] at hal)
        (repeat' (first | refine zss ?_ | ((first | (with_reducible first | apply At.val | apply AtQ.val)); (first | exact pr_add (by rfl) (by rfl) hw1 | exact pr_rem (by rfl) (by rfl) (by omega) hw2); exact rfl) | refine zsM ?_ | ((with_reducible first | apply AtM1.cr | apply AtQ.cr | apply At.cr); exact rfl; exact rfl; exact fun _ hmm => hv _ hmm; exact ztk; kernel_rfl) | ((with_reducible apply At.litF Mt.cells [mt l[y]!]); exact inferInstance; (iterate 7 exact rfl); intro b' m' hm' sl2; (try replace sl0 := sl0.mono hm'); (try replace sl1 := sl1.mono hm'); (try replace sl3 := sl3.mono hm'); (try replace sl4 := sl4.mono hm'); (try replace sl5 := sl5.mono hm'); (try replace sl6 := sl6.mono hm')) | ((with_reducible apply At.apW (f := Mt.cells) (l := Y)); exact rfl; exact rfl; exact (by repeat constructor); exact inferInstance; exact zrdl; (iterate 4 exact rfl); exact zom; exact rfl; intro p2 c2) | fail | ((with_reducible apply At.alloc (d := 10)); exact rfl; exact rfl; intro b10) | (refine zsp ?_ ?_ <;> (intro hc; (try simp only [zhcs, reduceCtorEq] at hc); (try (exfalso; first | (first | omega | exact absurd ((str_inj (b := [])).1 hc) hvv) | contradiction | omega | exact absurd rfl hc | exact absurd (by decide) hc))))))
        all_goals rw [← hms, ← hal]
        all_goals ((with_reducible refine At.reachk ((⟨i + 1, p2, c2⟩ : XS)) ?_ ?_ ?_ ?_); exact zsubs; exact zml; exact zente; exact ⟨⟨h, hnn⟩, by dsimp only; omega⟩)
  · have hi : i = l.length := by omega
    subst hi
    have hve : ∀ x ∈ l, x.v ≠ [] := fun x hx => by
      have hx' : x ∈ r := by rw [← hR]; exact (rot_perm l k).symm.subset hx
      obtain ⟨j, hj, rfl⟩ := List.mem_iff_getElem.1 hx'
      have := hn j (by omega)
      rwa [getElem!_pos r j hj] at this
    have hfull : msA r l.length = (rot l k).map mt := by unfold msA; rw [hR, List.take_of_length_le (by omega)]
    have g1 := exact_rot hr k hve
    have g2 := picked (o := o) hr k hve
    have g3 := check_rot hr k
    have g4 : Mids ((rot l k).map mt) := mids_rot hf.mid k
    rw [← hfull] at g1 g2 g3 g4
    have hml : (msA r l.length).length = l.length := by unfold msA; rw [List.length_map, List.length_take]; omega
    generalize msA r l.length = M at g1 g2 g3 g4 hml ⊢
    (refine At.own_freeze inferInstance (by repeat constructor) fun m' hm' sl3 => ?_; (try replace sl0 := sl0.mono hm'); (try replace sl1 := sl1.mono hm'); (try replace sl2 := sl2.mono hm'); (try replace sl4 := sl4.mono hm'); (try replace sl5 := sl5.mono hm'); (try replace sl6 := sl6.mono hm'))
    have h1 := fun (m1 : Mem) (h1 : m'.le m1) => Mt.exactC (m := m1) p1 c1 M.length M l l.length true (by omega) g4 rfl g1.1 g1.2 rfl (sl3.mono h1)
    have h2 := fun (m1 : Mem) (h1 : m'.le m1) => Mt.checkC (m := m1) p1 c1 M.length M 0 rfl (by omega) g4 g3 (sl3.mono h1)
    have h3 := fun (m1 : Mem) (h1 : m'.le m1) => Mt.allC (m := m1) q d o.length o p1 c1 M.length M (all M o) (by omega) (by omega) rfl rfl rfl (sl1.mono h1) (sl3.mono h1)
    have h4 := fun (m1 : Mem) (h1 : m'.le m1) q2 d2 (s2 : Sl m1 Ls.fX 1 q2 d2 [(⟨o, q, d⟩ : SL), ⟨l, p, c⟩, ⟨[], none, 0⟩]) => Mt.pickC (m := m1) p1 c1 M.length M q2 d2 3 [(⟨o, q, d⟩ : SL), ⟨l, p, c⟩, ⟨[], none, 0⟩] (if all M o then [0, 1] else [1]) (if all M o then [0, 1] else [1] : List Int).length (by omega) (Nat.le_of_ble_eq_true rfl) rfl rfl (g2 q p d c) rfl (sl3.mono h1) s2 (lbs_3 (by omega) (by omega) (sl1.mono h1) (sl0.mono h1))
    cases hA : all M o
    all_goals
      rw [hA] at h3 h4
      simp only [↓reduceIte, Bool.false_eq_true, List.length_cons, List.length_nil] at h4
      (repeat' (first | refine zss ?_ | refine zsM ?_ | ((with_reducible apply At.litF Ls.fX [(⟨o, q, d⟩ : SL), ⟨l, p, c⟩, ⟨[], none, 0⟩]); exact inferInstance; (iterate 7 exact rfl); intro b' m' hm' sl4; (try replace sl0 := sl0.mono hm'); (try replace sl1 := sl1.mono hm'); (try replace sl2 := sl2.mono hm'); (try replace sl3 := sl3.mono hm'); (try replace sl5 := sl5.mono hm'); (try replace sl6 := sl6.mono hm')) | ((with_reducible first | apply At.c1 | apply At.c0); exact rfl; exact rfl; exact h1 _ zml; exact ztk; kernel_rfl; rintro v' m' B' hm' ⟨rfl, p5, c5, rfl, sl5⟩; (try replace sl0 := sl0.mono hm'); (try replace sl1 := sl1.mono hm'); (try replace sl2 := sl2.mono hm'); (try replace sl3 := sl3.mono hm'); (try replace sl4 := sl4.mono hm'); (try replace sl5 := sl5.mono hm'); (try replace sl6 := sl6.mono hm'); (try (have hq0 : hm' = Mem.le_refl _ := rfl; clear hq0 hm'))) | ((with_reducible first | apply At.c1 | apply At.c0); exact rfl; exact rfl; exact h4 _ zml _ _ sl4; exact ztk; kernel_rfl; rintro v' m' B' hm' ⟨rfl, p6, c6, rfl, sl6⟩; (try replace sl0 := sl0.mono hm'); (try replace sl1 := sl1.mono hm'); (try replace sl2 := sl2.mono hm'); (try replace sl3 := sl3.mono hm'); (try replace sl4 := sl4.mono hm'); (try replace sl5 := sl5.mono hm'); (try replace sl6 := sl6.mono hm'); (try (have hq0 : hm' = Mem.le_refl _ := rfl; clear hq0 hm'))) | ((with_reducible first | apply AtM1.cr | apply AtQ.cr | apply At.cr); exact rfl; exact rfl; exact fun _ hmm => sameC p5 c5 l.length l p c l.length (by omega) rfl rfl (sl5.mono hmm) (sl0.mono hmm); exact ztk; kernel_rfl) | ((with_reducible first | apply AtM1.cr | apply AtQ.cr | apply At.cr); exact rfl; exact rfl; exact fun _ hmm => h2 _ (Mem.le_trans zml hmm); exact ztk; kernel_rfl) | ((with_reducible first | apply AtM1.cr | apply AtQ.cr | apply At.cr); exact rfl; exact rfl; exact fun _ hmm => h3 _ (Mem.le_trans zml hmm); exact ztk; kernel_rfl) | ((with_reducible apply At.alloc (d := 10)); exact rfl; exact rfl; intro b10) | (refine zsp ?_ ?_ <;> (intro hc; (try simp only [zhcs, reduceCtorEq] at hc); (try (exfalso; first | (first | omega | exact absurd rfl hc) | contradiction | omega | exact absurd rfl hc | exact absurd (by decide) hc))))))
      all_goals ((with_reducible apply At.retB1 (B := [])); exact rfl; exact rfl; exact zml; exact zkp; exact ⟨rfl, rfl⟩)
end Top3
end Go.Proofs.Ytjncahmbllmllaa
