/- Part 15 of what the law's proof needs: rules of the walk, contracts of functions, plain laws. No condition. -/
import Derived.Test.YtjdlnckifhifbaaGreatT8LZ14
import Derived.ProofKit
import Derived.OpenShut
import Derived.Below
import Derived.Carry
import Derived.Deep.Slices
import Derived.WideShapes
/- The contracts of slices.Insert and slices.Delete over names. -/
set_option linter.unusedSimpArgs false
set_option linter.unusedVariables false
set_option linter.unusedSectionVars false
set_option maxRecDepth 20000
set_option maxHeartbeats 4000000
namespace Go.Proofs.YtjdlnckifhifbaaGreat
open Go Go.J
attribute [local irreducible] At AtQ AtM AtM1 PR Ct Pu Rd Res.blk Res.own Res.ex RVs RV
namespace Nm
abbrev T : TypeId := 94
theorem fl_len (l : List Nmd) : (l.flatMap cells).length = l.length * 2 := flatMap_length (f := cells) (fun _ => rfl) l
theorem fl_one (l : List Nmd) : ∀ v ∈ l.flatMap cells, v.oneCell' = true := fun v hv => by
  obtain ⟨x, _, hx⟩ := List.mem_flatMap.1 hv
  exact (inferInstance : Fl cells 2).one x v hx
theorem put2 {cs : List Value} {o c i : Nat} {l : List Nmd} {x : Nmd} (hi : i ≤ l.length) (hc : l.length + 1 ≤ c) (hcs : o + c * 2 ≤ cs.length) (ht : Hld cs o ((l.take i).flatMap cells)) (a b : Nat) (ea : a = o + i * 2) (eb : b = o + (i + 1) * 2) :
    (Hld (put (put cs a ([x].flatMap cells)) b ((l.drop i).flatMap cells)) o ((l.take i ++ [x] ++ l.drop i).flatMap cells) ∧ (put (put cs a ([x].flatMap cells)) b ((l.drop i).flatMap cells)).length = cs.length) ∧
    (Hld (put (put cs b ((l.drop i).flatMap cells)) a ([x].flatMap cells)) o ((l.take i ++ [x] ++ l.drop i).flatMap cells) ∧ (put (put cs b ((l.drop i).flatMap cells)) a ([x].flatMap cells)).length = cs.length) := by
  subst ea eb
  have e1 : ((l.take i).flatMap cells).length = i * 2 := by rw [fl_len, List.length_take, Nat.min_eq_left hi]
  have e2 : ([x].flatMap cells).length = 2 := rfl
  have e3 : ((l.drop i).flatMap cells).length = (l.length - i) * 2 := by rw [fl_len, List.length_drop]
  have e4 : (i + 1) * 2 = i * 2 + 2 := by omega
  have hm : (l.length + 1) * 2 ≤ c * 2 := Nat.mul_le_mul_right _ hc
  have q1 : o + i * 2 + ([x].flatMap cells).length ≤ cs.length := by rw [e2]; omega
  have q2 : o + (i + 1) * 2 + ((l.drop i).flatMap cells).length ≤ cs.length := by rw [e3]; omega
  have q3 : o + (i + 1) * 2 + ((l.drop i).flatMap cells).length ≤ (put cs (o + i * 2) ([x].flatMap cells)).length := by rw [put_len q1]; exact q2
  have q4 : o + i * 2 + ([x].flatMap cells).length ≤ (put cs (o + (i + 1) * 2) ((l.drop i).flatMap cells)).length := by rw [put_len q2]; exact q1
  have e5 : (l.take i ++ [x] ++ l.drop i).flatMap cells = ((l.take i).flatMap cells ++ [x].flatMap cells) ++ (l.drop i).flatMap cells := by rw [List.flatMap_append, List.flatMap_append]
  have e6 : o + ((l.take i).flatMap cells ++ [x].flatMap cells).length = o + (i + 1) * 2 := by rw [List.length_append, e1, e2]; omega
  rw [e5]
  refine ⟨⟨Hld.app (Hld.app ?_ ?_) ?_, by rw [put_len q3, put_len q1]⟩, Hld.app (Hld.app ?_ ?_) ?_, by rw [put_len q4, put_len q2]⟩
  · exact (ht.put_out q1 (.inl (by rw [e1]; exact Nat.le_refl _))).put_out q3 (.inl (by rw [e1]; omega))
  · rw [e1]; exact (Hld.put_in q1).put_out q3 (.inl (by rw [e2]; omega))
  · rw [e6]; exact Hld.put_in q3
  · exact (ht.put_out q2 (.inl (by rw [e1]; omega))).put_out q4 (.inl (by rw [e1]; exact Nat.le_refl _))
  · rw [e1]; exact Hld.put_in q4
  · rw [e6]; exact (Hld.put_in q2).put_out q4 (.inr (by rw [e2]; omega))
set_option maxHeartbeats 4000000 in
theorem insert {m : Mem} (p : Option Addr) (c : Nat) (l : List Nmd) (i : Nat) (q : Option Addr) (d : Nat) (x : Nmd) (hi : i ≤ l.length) (hl : l.length ≤ 1000000) :
    Ct Tryz.prog 31 #[.slice p l.length c, .int .i64 (i : Int), .slice q 1 d] m [.own cells 2 94 p c l, .own cells 2 94 q d [x]]
      (fun v m' B => m = m' ∧ ∃ p' c', v = .slice p' (l.take i ++ [x] ++ l.drop i).length c' ∧ B = [.own cells 2 94 p' c' (l.take i ++ [x] ++ l.drop i)]) := by
  by_cases h : i = l.length
  · subst h
    rw [List.take_length, List.drop_length, List.append_nil]
    refine Ct.enterV (by rfl) Tryz.func31 rfl Tryz.ntmps31 rfl (fun w0 Rest => ?_)
    (repeat' (first | refine zss ?_ | refine zsO ?_ | ((with_reducible apply At.apW (f := cells)); exact rfl; exact rfl; exact (by repeat constructor); exact inferInstance; exact zrdl; (iterate 4 exact rfl); exact zom; exact rfl; intro _ _) | (refine zsp ?_ ?_ <;> (intro hc; (try simp only [zhcs, reduceCtorEq] at hc); (try (exfalso; first | omega | contradiction | omega | exact absurd rfl hc | exact absurd (by decide) hc))))))
    all_goals ((with_reducible apply At.retB1 (B := [.own cells 2 94 _ _ _])); exact rfl; exact rfl; exact zml; exact zkp; exact ⟨rfl, _, _, rfl, rfl⟩)
  · have hlt : i < l.length := by omega
    have hlen : (l.take i ++ [x] ++ l.drop i).length = l.length + 1 := by simp only [List.length_append, List.length_take, List.length_drop, List.length_singleton]; omega
    rw [hlen]
    have hw1 : IntKind.wrap .i64 ((l.length : Int) + ((1 : Nat) : Int)) = ((l.length + 1 : Nat) : Int) := by rw [← Int.natCast_add]; exact IntWalk.i64_in _ (by omega)
    have hw2 : IntKind.wrap .i64 (((l.length + 1 : Nat) : Int) - (i : Int)) = ((l.length + 1 - i : Nat) : Int) := by rw [← Int.ofNat_sub (by omega)]; exact IntWalk.i64_in _ (by omega)
    have hw3 : IntKind.wrap .i64 ((i : Int) + ((1 : Nat) : Int)) = ((i + 1 : Nat) : Int) := by rw [← Int.natCast_add]; exact IntWalk.i64_in _ (by omega)
    refine Ct.enterV (by rfl) Tryz.func31 rfl Tryz.ntmps31 rfl (fun w0 Rest => ?_)
    refine At.own_row (hp := pk0) (f := cells) (sz := 2) (E := 94) (p := p) (c := c) (l := l) (fun _ _ e => by rw [e] at hlt; exact absurd hlt (Nat.not_lt_zero _)) (fun g o cs e hlc hcm hcs hh => ?_) inferInstance
    refine At.own_row (hp := pk1) (f := cells) (sz := 2) (E := 94) (p := q) (c := d) (l := [x]) (fun _ _ e => by cases e) (fun g2 o2 cs2 e2 hlc2 hcm2 hcs2 hh2 => ?_) inferInstance
    subst e e2
    refine At.blk_ne pk0 pk0 fun hne => ?_
    obtain ⟨ht, hd⟩ := hh.split (i := i) inferInstance hi
    have hdl : (l.drop i).length = l.length - i := List.length_drop ..
    have hlx : ([x].flatMap cells).length = 2 := rfl
    have hr2 := fun (m : Mem) (w0 : World) (Rs Rs' : List Res) (hp : Pick Rs (.blk g2 94 cs2) Rs') => blk_cells (w0 := w0) (m := m) hp hh2
    have hr1 := fun (m : Mem) (w0 : World) (Rs Rs' : List Res) (hp : Pick Rs (.blk g 94 cs) Rs') => blk_cells (w0 := w0) (m := m) hp hd
    by_cases hroom : c < l.length + 1
    · (repeat' (first | ((with_reducible apply At.mixed (id := 11) 9 (.q 0 (.q 1 (.q 2 (.q 3 (.q 4 (.q 5 (.q 6 (.q 7 (.x 8 .done)))))))))); exact rfl; kernel_rfl; kernel_rfl; kernel_rfl) | ((with_reducible apply At.mixed (id := 15) 9 (.q 0 (.q 1 (.q 2 (.q 3 (.q 4 (.q 5 (.q 6 (.q 7 (.x 8 .done)))))))))); exact rfl; kernel_rfl; kernel_rfl; kernel_rfl) | refine zsx ?_ | refine zss ?_ | ((with_reducible apply AtM.bo); exact rfl; exact rfl; exact rfl) | ((first | (with_reducible first | apply At.val | apply AtQ.val) | ((with_reducible first | apply AtM1.valz | apply AtM1.val); exact rfl) | ((with_reducible apply AtM1.val); exact rfl)); (first | exact pr_cap_sl (by rfl) (by rfl) | exact pr_add (by rfl) (by rfl) hw1 | exact pr_sub (by rfl) (by rfl) hw2 | exact pr_add (by rfl) (by rfl) hw3 | exact pr_slice_bh (sz := 2) (by rfl) (by rfl) (by rfl) (by rfl) (by omega) | exact pr_slice_bl (sz := 2) (by rfl) (by rfl) (by rfl) (by rfl) (by omega) (by omega) (by omega)); exact rfl) | refine zs0 ?_ | refine zx0 ?_ | ((with_reducible apply At.appendZB (f := cells) (l := l.take i) (⟨[], 0⟩ : Nmd)); exact rfl; exact rfl; exact blk_rdbF (by repeat constructor) inferInstance ht (by rw [List.length_take]; omega); (rw [List.length_take]; omega); exact rfl; exact rfl; exact rfl; exact rfl; (rw [List.length_take]; omega); omega; (rw [List.length_take]; omega); exact rfl; intro g3 o3 c3 cs3 hc3 hcm3 hcs3 hh3; rw [List.length_take, Nat.min_eq_left hi, show i + (l.length + 1 - i) = l.length + 1 by omega] at *) | ((with_reducible apply At.copyB (sz := 2) ([x].flatMap cells)); exact rfl; exact rfl; exact rfl; exact rfl; (show min 1 _ = 1; omega); exact rfl; exact hr2 _ _ _ _ (by repeat constructor); exact fl_one [x]; exact (by repeat constructor); (rw [hlx]; (try rw [put_len (by rw [fl_len, hdl]; omega)]); omega); exact rfl) | ((with_reducible apply At.copyB (sz := 2) (k := l.length - i) ((l.drop i).flatMap cells)); exact rfl; exact rfl; exact rfl; exact rfl; (show min _ _ = _; omega); (rw [fl_len, hdl]); exact hr1 _ _ _ _ (by repeat constructor); exact fl_one (l.drop i); exact (by repeat constructor); (rw [fl_len, hdl]; (try rw [put_len (by rw [hlx]; omega)]); omega); exact rfl) | (refine zsp ?_ ?_ <;> (intro hc; (try simp only [zhcs, reduceCtorEq] at hc); (try (exfalso; first | omega | contradiction | omega | exact absurd rfl hc | exact absurd (by decide) hc))))))
      all_goals have hH := (put2 (x := x) hi hc3 hcs3 (by rw [List.flatMap_append] at hh3; exact hh3.left) _ _ rfl rfl).1
      all_goals refine At.own_end (f := cells) (sz := 2) (l := l.take i ++ [x] ++ l.drop i) (c := c3) inferInstance (by rw [hlen]; exact hc3) hcm3 (by rw [hH.2]; exact hcs3) hH.1 (by repeat constructor) ?_
      all_goals ((with_reducible apply At.retB1 (B := [.own cells 2 94 _ _ _])); exact rfl; exact rfl; exact zml; exact zkp; exact ⟨rfl, _, _, rfl, rfl⟩)
    · (repeat' (first | ((with_reducible apply At.mixed (id := 11) 9 (.q 0 (.q 1 (.q 2 (.q 3 (.q 4 (.q 5 (.q 6 (.q 7 (.x 8 .done)))))))))); exact rfl; kernel_rfl; kernel_rfl; kernel_rfl) | ((with_reducible apply At.mixed (id := 15) 9 (.q 0 (.q 1 (.q 2 (.q 3 (.q 4 (.q 5 (.q 6 (.q 7 (.x 8 .done)))))))))); exact rfl; kernel_rfl; kernel_rfl; kernel_rfl) | refine zsx ?_ | refine zss ?_ | ((with_reducible apply AtM.bo); exact rfl; exact rfl; exact rfl) | ((first | (with_reducible first | apply At.val | apply AtQ.val) | ((with_reducible first | apply AtM1.valz | apply AtM1.val); exact rfl) | ((with_reducible apply AtM1.val); exact rfl)); (first | exact pr_overlaps (sz := 2) (t := 89) (r := 4) Tryz.func54 (by kernel_rfl) (by kernel_rfl) (by kernel_rfl) (by kernel_rfl) (by rfl) (by rfl) (by rfl) (by rfl) pk0 pk0 hne (by omega) | exact pr_cap_sl (by rfl) (by rfl) | exact pr_add (by rfl) (by rfl) hw1 | exact pr_sub (by rfl) (by rfl) hw2 | exact pr_add (by rfl) (by rfl) hw3 | exact pr_slice_bh (sz := 2) (by rfl) (by rfl) (by rfl) (by rfl) (by omega) | exact pr_slice_bl (sz := 2) (by rfl) (by rfl) (by rfl) (by rfl) (by omega) (by omega) (by omega)); exact rfl) | refine zs0 ?_ | refine zx0 ?_ | ((with_reducible apply At.copyB (sz := 2) ([x].flatMap cells)); exact rfl; exact rfl; exact rfl; exact rfl; (show min 1 _ = 1; omega); exact rfl; exact hr2 _ _ _ _ (by repeat constructor); exact fl_one [x]; exact (by repeat constructor); (rw [hlx]; (try rw [put_len (by rw [fl_len, hdl]; omega)]); omega); exact rfl) | ((with_reducible apply At.copyB (sz := 2) (k := l.length - i) ((l.drop i).flatMap cells)); exact rfl; exact rfl; exact rfl; exact rfl; (show min _ _ = _; omega); (rw [fl_len, hdl]); exact hr1 _ _ _ _ (by repeat constructor); exact fl_one (l.drop i); exact (by repeat constructor); (rw [fl_len, hdl]; (try rw [put_len (by rw [hlx]; omega)]); omega); exact rfl) | (refine zsp ?_ ?_ <;> (intro hc; (try simp only [zhcs, reduceCtorEq] at hc); (try (exfalso; first | omega | contradiction | omega | exact absurd rfl hc | exact absurd (by decide) hc))))))
      all_goals have hH := (put2 (x := x) hi (c := c) (by omega) hcs ht _ _ rfl rfl).2
      all_goals refine At.own_end (f := cells) (sz := 2) (l := l.take i ++ [x] ++ l.drop i) (c := c) inferInstance (by rw [hlen]; omega) hcm (by rw [hH.2]; exact hcs) hH.1 (by repeat constructor) ?_
      all_goals ((with_reducible apply At.retB1 (B := [.own cells 2 94 _ _ _])); exact rfl; exact rfl; exact zml; exact zkp; exact ⟨rfl, _, _, rfl, rfl⟩)
theorem delete_ {m : Mem} (p : Option Addr) (c : Nat) (l : List Nmd) (i : Nat) (hi : i < l.length) (hl : l.length ≤ 1000000) :
    Ct Tryz.prog 30 #[.slice p l.length c, .int .i64 (i : Int), .int .i64 ((i + 1 : Nat) : Int)] m [.own cells 2 94 p c l]
      (fun v m' B => m = m' ∧ ∃ p' c', v = .slice p' (l.take i ++ l.drop (i + 1)).length c' ∧ B = [.own cells 2 94 p' c' (l.take i ++ l.drop (i + 1))]) := by
  have hlen : (l.take i ++ l.drop (i + 1)).length = l.length - 1 := by simp only [List.length_append, List.length_take, List.length_drop]; omega
  have hk : i + (l.length - (i + 1)) = l.length - 1 := by omega
  have hdl : (l.drop (i + 1)).length = l.length - (i + 1) := List.length_drop ..
  rw [hlen]
  refine Ct.enterV (by rfl) Tryz.func30 rfl Tryz.ntmps30 rfl (fun w0 Rest => ?_)
  refine At.own_row (hp := pk0) (f := cells) (sz := 2) (E := 94) (p := p) (c := c) (l := l) (fun _ _ e => by rw [e] at hi; exact absurd hi (Nat.not_lt_zero _)) (fun g o cs e hlc hcm hcs hh => ?_) inferInstance
  subst e
  obtain ⟨ht, _⟩ := hh.split (i := i) inferInstance (Nat.le_of_lt hi)
  obtain ⟨_, hd⟩ := hh.split (i := i + 1) inferInstance hi
  have hcm2 : l.length * 2 ≤ c * 2 := Nat.mul_le_mul_right _ hlc
  have e1 : ((l.take i).flatMap cells).length = i * 2 := by rw [fl_len, List.length_take, Nat.min_eq_left (Nat.le_of_lt hi)]
  have e3 : ((l.drop (i + 1)).flatMap cells).length = (l.length - (i + 1)) * 2 := by rw [fl_len, hdl]
  have q1 : o + i * 2 + ((l.drop (i + 1)).flatMap cells).length ≤ cs.length := by rw [e3]; omega
  (repeat' (first | ((with_reducible apply At.mixed (id := 5) 8 (.q 0 (.q 1 (.q 2 (.q 3 (.q 4 (.q 5 (.x 6 (.q 7 .done))))))))); exact rfl; kernel_rfl; kernel_rfl; kernel_rfl) | refine zsx ?_ | refine zss ?_ | ((with_reducible apply AtM.bo); exact rfl; exact rfl; exact rfl) | ((first | (with_reducible first | apply At.val | apply AtQ.val) | ((with_reducible first | apply AtM1.valz | apply AtM1.val); exact rfl) | ((with_reducible apply AtM1.val); exact rfl)); (first | exact pr_slice4 (sz := 2) (by rfl) (by rfl) (by rfl) (by rfl) (by rfl) (by rfl) (by omega) (by omega) (by omega) | exact pr_slice_blh (lo := l.length - 1) (sz := 2) (by rfl) (by rfl) (by rfl) (by rfl) (by rfl) (by omega) (by omega) (by omega) | exact pr_slice_bh (sz := 2) (by rfl) (by rfl) (by rfl) (by rfl) (by omega) | exact pr_slice_l (sz := 2) (by rfl) (by rfl) (by rfl) (by rfl) (by omega) (by omega)); exact rfl) | refine zs0 ?_ | refine zx0 ?_ | ((with_reducible apply At.appendB (sz := 2) ((l.drop (i + 1)).flatMap cells)); exact rfl; exact rfl; exact rfl; exact rfl; exact rfl; (rw [e3]); (intro hpos; exact ⟨_, _, subp_lt (by omega), blk_cells (by repeat constructor) hd⟩); exact fl_one _; omega; exact (by repeat constructor); exact q1; exact rfl; rw [hk]) | ((with_reducible apply At.clearB (sz := 2)); exact rfl; exact rfl; exact rfl; exact rfl; exact (by repeat constructor); (rw [put_len q1]; omega); exact rfl; intro vz hvz) | (refine zsp ?_ ?_ <;> (intro hc; (try simp only [zhcs, reduceCtorEq] at hc); (try (exfalso; first | omega | contradiction | omega | exact absurd rfl hc | exact absurd (by decide) hc))))))
  all_goals have q2 : o + (l.length - 1) * 2 + vz.length ≤ (put cs (o + i * 2) ((l.drop (i + 1)).flatMap cells)).length := by rw [put_len q1, hvz]; omega
  all_goals refine At.own_end (f := cells) (sz := 2) (l := l.take i ++ l.drop (i + 1)) (c := c) inferInstance (by rw [hlen]; omega) hcm (by rw [put_len q2, put_len q1]; exact hcs) (by
    rw [List.flatMap_append]
    refine Hld.put_out q2 (Hld.app (ht.put_out q1 (.inl (by omega))) (by rw [e1]; exact Hld.put_in q1)) (.inl ?_)
    rw [List.length_append, e1, e3]; omega) (by repeat constructor) ?_
  all_goals ((with_reducible apply At.retB1 (B := [.own cells 2 94 _ _ _])); exact rfl; exact rfl; exact zml; exact zkp; exact ⟨rfl, _, _, rfl, rfl⟩)
end Nm
end Go.Proofs.YtjdlnckifhifbaaGreat
/- The contracts of the index of names. -/
set_option linter.unusedSimpArgs false
set_option linter.unusedVariables false
set_option linter.unusedSectionVars false
set_option maxRecDepth 20000
set_option maxHeartbeats 4000000
namespace Go.Proofs.YtjdlnckifhifbaaGreat
open Go Go.J
attribute [local irreducible] At AtQ AtM AtM1 PR Ct Pu Rd Res.blk Res.own Res.ex RVs RV
namespace Nm
abbrev ptr (b : Nat) : Value := .pointer (some ⟨b, 0, none⟩)
abbrev oT (p : Option Addr) (c : Nat) (l : List Nmd) : Res := .own cells 2 94 p c l
abbrev rr (b : Nat) (p : Option Addr) (c : Nat) (l : List Nmd) : List Res := [.blk b 92 [.slice p l.length c], .own cells 2 94 p c l]
structure PC where
  (p : Option Addr) (c : Nat)
/-- an index, by what it has -/
def R (b : Nat) (l : List Nmd) : Res := .ex (fun _ : PC => True) (fun s => rr b s.p s.c l)
theorem R.openR {m : Mem} {f : FuncId} {args : Array Value} {b : Nat} {l : List Nmd} {V : Value} (h : ∀ s : PC, Rd Tryz.prog f args m (rr b s.p s.c l) V) : Rd Tryz.prog f args m [R b l] V :=
  Rd.openx fun s _ => by rw [List.append_nil]; exact h s
theorem R.open {m : Mem} {f : FuncId} {args : Array Value} {b : Nat} {l : List Nmd} {Q : Value → Mem → List Res → Prop} (h : ∀ s : PC, Ct Tryz.prog f args m (rr b s.p s.c l) Q) : Ct Tryz.prog f args m [R b l] Q :=
  Ct.openx fun s _ => by rw [List.append_nil]; exact h s
theorem R.close {b : Nat} {l : List Nmd} (p : Option Addr) (c : Nat) (Rest : List Res) : Ent (rr b p c l ++ Rest) (R b l :: Rest) := Ent.closex (A := fun s : PC => rr b s.p s.c l) ⟨p, c⟩ trivial
theorem new {m : Mem} : Ct Tryz.prog 12 #[] m [] (fun v m' B => m = m' ∧ ∃ b, v = ptr b ∧ B = [R b []]) := by
  have h : Ct Tryz.prog 12 #[] m [] (fun v m' B => m = m' ∧ ∃ b, v = ptr b ∧ B = rr b none 0 []) := by
    refine Ct.enterV (by rfl) Tryz.func12 rfl Tryz.ntmps12 rfl (fun w0 Rest => ?_)
    (repeat' (first | refine zss ?_ | refine zsO ?_ | ((with_reducible apply At.box (d := 2)); exact rfl; exact rfl; exact rfl; intro b2) | (refine zsp ?_ ?_ <;> (intro hc; (try simp only [zhcs, reduceCtorEq] at hc); (try (exfalso; first | contradiction | omega | exact absurd rfl hc | exact absurd (by decide) hc))))))
    all_goals refine At.own_nil cells 2 94 ?_
    all_goals ((with_reducible apply At.retB1 (B := rr _ none 0 [])); exact rfl; exact rfl; exact zml; exact zkp; exact ⟨rfl, _, rfl, rfl⟩)
  exact Ct.conv h fun v m' B _ ⟨h1, b, h2, h3⟩ => ⟨_, ⟨h1, b, h2, rfl⟩, fun Rest => by subst h3; exact R.close none 0 Rest⟩
theorem put0 {m : Mem} (b : Nat) (p0 : Option Addr) (c0 : Nat) (l : List Nmd) (t : List UInt8) (k : Int) (hs : srt l) (hl : l.length ≤ 1000000) :
    Ct Tryz.prog 18 #[ptr b, .string (str t), .int .i64 k] m (rr b p0 c0 l) (fun v m' B => v = .bool (!has l t) ∧ m = m' ∧ ∃ p c, B = rr b p c (putL l t k)) := by
  have ha := at_ (m := m) p0 c0 l t hs hl
  cases h : has l t with
  | true =>
    rw [h] at ha
    rw [show putL l t k = l by unfold putL; rw [if_pos h]]
    refine Ct.enterV (by rfl) Tryz.func18 rfl Tryz.ntmps18 rfl (fun w0 Rest => ?_)
    (repeat' (first | refine zss ?_ | refine zsO ?_ | ((with_reducible first | apply At.c1 | apply At.c0); exact rfl; exact rfl; exact ha; exact ztk; kernel_rfl; rintro v' m' B' hm' ⟨rfl, rfl, rfl⟩; skip; (try (have hq0 : hm' = Mem.le_refl _ := rfl; clear hq0 hm'))) | (refine zsp ?_ ?_ <;> (intro hc; (try simp only [zhcs, reduceCtorEq] at hc); (try (exfalso; first | contradiction | omega | exact absurd rfl hc | exact absurd (by decide) hc))))))
    all_goals ((with_reducible apply At.retB1 (B := rr b p0 c0 l)); exact rfl; exact rfl; exact zml; exact zkp; exact ⟨rfl, rfl, _, _, rfl⟩)
  | false =>
    rw [h] at ha
    rw [show putL l t k = l.take (pos l t) ++ [⟨t, k⟩] ++ l.drop (pos l t) by unfold putL; rw [if_neg (by rw [h]; decide)]; rfl]
    refine Ct.enterV (by rfl) Tryz.func18 rfl Tryz.ntmps18 rfl (fun w0 Rest => ?_)
    (repeat' (first | refine zss ?_ | refine zsO ?_ | ((with_reducible apply At.lit cells [(⟨t, k⟩ : Nmd)]); exact inferInstance; (iterate 7 exact rfl); intro q) | ((with_reducible first | apply At.c1 | apply At.c0); exact rfl; exact rfl; exact ha; exact ztk; kernel_rfl; rintro v' m' B' hm' ⟨rfl, rfl, rfl⟩; skip; (try (have hq0 : hm' = Mem.le_refl _ := rfl; clear hq0 hm'))) | ((with_reducible first | apply At.c1 | apply At.c0); exact rfl; exact rfl; exact insert p0 c0 l (pos l t) _ _ (⟨t, k⟩ : Nmd) (pos_le l t) hl; exact ztk; kernel_rfl; rintro v' m' B' hm' ⟨rfl, p3, c3, rfl, rfl⟩; skip; (try (have hq0 : hm' = Mem.le_refl _ := rfl; clear hq0 hm'))) | (refine zsp ?_ ?_ <;> (intro hc; (try simp only [zhcs, reduceCtorEq] at hc); (try (exfalso; first | contradiction | omega | exact absurd rfl hc | exact absurd (by decide) hc))))))
    all_goals ((with_reducible apply At.retB1 (B := rr b _ _ _)); exact rfl; exact rfl; exact zml; exact zkp; exact ⟨rfl, rfl, _, _, rfl⟩)
theorem put {m : Mem} (b : Nat) (l : List Nmd) (t : List UInt8) (k : Int) (hs : srt l) (hl : l.length ≤ 1000000) :
    Ct Tryz.prog 18 #[ptr b, .string (str t), .int .i64 k] m [R b l] (fun v m' B => v = .bool (!has l t) ∧ m = m' ∧ B = [R b (putL l t k)]) :=
  R.open fun s => Ct.conv (put0 b s.p s.c l t k hs hl) fun v m' B _ ⟨h1, h2, p, c, h3⟩ => ⟨_, ⟨h1, h2, rfl⟩, fun Rest => by subst h3; exact R.close p c Rest⟩
theorem get0 {m : Mem} (b : Nat) (p0 : Option Addr) (c0 : Nat) (l : List Nmd) (t : List UInt8) (hs : srt l) (hl : l.length ≤ 1000000) :
    Ct Tryz.prog 13 #[ptr b, .string (str t)] m (rr b p0 c0 l) (fun v m' B => v = .tuple #[.int .i64 (getP l t), .bool (has l t)] ∧ m = m' ∧ B = rr b p0 c0 l) := by
  have ha := at_ (m := m) p0 c0 l t hs hl
  cases h : has l t with
  | true =>
    rw [h] at ha
    rw [show getP l t = (l[pos l t]!).p by unfold getP; rw [if_pos h]]
    have hp : pos l t < l.length := (of_decide_eq_true ((has_pos hs t).symm.trans h)).1
    refine Ct.enterV (by rfl) Tryz.func13 rfl Tryz.ntmps13 rfl (fun w0 Rest => ?_)
    (repeat' (first | refine zss ?_ | refine zsO ?_ | ((with_reducible first | apply At.c1 | apply At.c0); exact rfl; exact rfl; exact ha; exact ztk; kernel_rfl; rintro v' m' B' hm' ⟨rfl, rfl, rfl⟩; skip; (try (have hq0 : hm' = Mem.le_refl _ := rfl; clear hq0 hm'))) | (refine zsp ?_ ?_ <;> (intro hc; (try simp only [zhcs, reduceCtorEq] at hc); (try (exfalso; first | contradiction | omega | exact absurd rfl hc | exact absurd (by decide) hc))))))
    all_goals ((with_reducible apply At.retB2 (B := rr b p0 c0 l)); (iterate 3 exact rfl); exact zml; exact zkp; exact ⟨rfl, rfl, rfl⟩)
  | false =>
    rw [h] at ha
    rw [show getP l t = 0 by unfold getP; rw [h]; rfl]
    refine Ct.enterV (by rfl) Tryz.func13 rfl Tryz.ntmps13 rfl (fun w0 Rest => ?_)
    (repeat' (first | refine zss ?_ | refine zsO ?_ | ((with_reducible first | apply At.c1 | apply At.c0); exact rfl; exact rfl; exact ha; exact ztk; kernel_rfl; rintro v' m' B' hm' ⟨rfl, rfl, rfl⟩; skip; (try (have hq0 : hm' = Mem.le_refl _ := rfl; clear hq0 hm'))) | (refine zsp ?_ ?_ <;> (intro hc; (try simp only [zhcs, reduceCtorEq] at hc); (try (exfalso; first | contradiction | omega | exact absurd rfl hc | exact absurd (by decide) hc))))))
    all_goals ((with_reducible apply At.retB2 (B := rr b p0 c0 l)); (iterate 3 exact rfl); exact zml; exact zkp; exact ⟨rfl, rfl, rfl⟩)
theorem get {m : Mem} (b : Nat) (l : List Nmd) (t : List UInt8) (hs : srt l) (hl : l.length ≤ 1000000) :
    Ct Tryz.prog 13 #[ptr b, .string (str t)] m [R b l] (fun v m' B => v = .tuple #[.int .i64 (getP l t), .bool (has l t)] ∧ m = m' ∧ B = [R b l]) :=
  R.open fun s => Ct.conv (get0 b s.p s.c l t hs hl) fun v m' B _ ⟨h1, h2, h3⟩ => ⟨_, ⟨h1, h2, rfl⟩, fun Rest => by subst h3; exact R.close s.p s.c Rest⟩
theorem drop0 {m : Mem} (b : Nat) (p0 : Option Addr) (c0 : Nat) (l : List Nmd) (t : List UInt8) (hs : srt l) (hl : l.length ≤ 1000000) :
    Ct Tryz.prog 14 #[ptr b, .string (str t)] m (rr b p0 c0 l) (fun v m' B => v = .bool (has l t) ∧ m = m' ∧ ∃ p c, B = rr b p c (dropL l t)) := by
  have ha := at_ (m := m) p0 c0 l t hs hl
  cases h : has l t with
  | true =>
    rw [h] at ha
    have hp := of_decide_eq_true ((has_pos hs t).symm.trans h)
    have hw : IntKind.wrap .i64 ((pos l t : Int) + 1) = ((pos l t + 1 : Nat) : Int) := by rw [show (pos l t : Int) + 1 = ((pos l t + 1 : Nat) : Int) by omega]; exact IntWalk.i64_in _ (by omega)
    rw [show dropL l t = l.take (pos l t) ++ l.drop (pos l t + 1) by rw [drop_at hs hp.1, hp.2]]
    refine Ct.enterV (by rfl) Tryz.func14 rfl Tryz.ntmps14 rfl (fun w0 Rest => ?_)
    (repeat' (first | refine zss ?_ | ((first | (with_reducible first | apply At.val | apply AtQ.val)); (exact pr_add (by rfl) (by rfl) hw); exact rfl) | refine zsO ?_ | ((with_reducible first | apply At.c1 | apply At.c0); exact rfl; exact rfl; exact ha; exact ztk; kernel_rfl; rintro v' m' B' hm' ⟨rfl, rfl, rfl⟩; skip; (try (have hq0 : hm' = Mem.le_refl _ := rfl; clear hq0 hm'))) | ((with_reducible first | apply At.c1 | apply At.c0); exact rfl; exact rfl; exact delete_ p0 c0 l (pos l t) hp.1 hl; exact ztk; kernel_rfl; rintro v' m' B' hm' ⟨rfl, p3, c3, rfl, rfl⟩; skip; (try (have hq0 : hm' = Mem.le_refl _ := rfl; clear hq0 hm'))) | (refine zsp ?_ ?_ <;> (intro hc; (try simp only [zhcs, reduceCtorEq] at hc); (try (exfalso; first | contradiction | omega | exact absurd rfl hc | exact absurd (by decide) hc))))))
    all_goals ((with_reducible apply At.retB1 (B := rr b _ _ _)); exact rfl; exact rfl; exact zml; exact zkp; exact ⟨rfl, rfl, _, _, rfl⟩)
  | false =>
    rw [h] at ha
    rw [drop_none h]
    refine Ct.enterV (by rfl) Tryz.func14 rfl Tryz.ntmps14 rfl (fun w0 Rest => ?_)
    (repeat' (first | refine zss ?_ | refine zsO ?_ | ((with_reducible first | apply At.c1 | apply At.c0); exact rfl; exact rfl; exact ha; exact ztk; kernel_rfl; rintro v' m' B' hm' ⟨rfl, rfl, rfl⟩; skip; (try (have hq0 : hm' = Mem.le_refl _ := rfl; clear hq0 hm'))) | (refine zsp ?_ ?_ <;> (intro hc; (try simp only [zhcs, reduceCtorEq] at hc); (try (exfalso; first | contradiction | omega | exact absurd rfl hc | exact absurd (by decide) hc))))))
    all_goals ((with_reducible apply At.retB1 (B := rr b p0 c0 l)); exact rfl; exact rfl; exact zml; exact zkp; exact ⟨rfl, rfl, _, _, rfl⟩)
theorem drop {m : Mem} (b : Nat) (l : List Nmd) (t : List UInt8) (hs : srt l) (hl : l.length ≤ 1000000) :
    Ct Tryz.prog 14 #[ptr b, .string (str t)] m [R b l] (fun v m' B => v = .bool (has l t) ∧ m = m' ∧ B = [R b (dropL l t)]) :=
  R.open fun s => Ct.conv (drop0 b s.p s.c l t hs hl) fun v m' B _ ⟨h1, h2, p, c, h3⟩ => ⟨_, ⟨h1, h2, rfl⟩, fun Rest => by subst h3; exact R.close p c Rest⟩
theorem len0 {m : Mem} (b : Nat) (p0 : Option Addr) (c0 : Nat) (l : List Nmd) : Rd Tryz.prog 17 #[ptr b] m (rr b p0 c0 l) (.int .i64 (l.length : Int)) := by
  unfold Rd
  refine Ct.enterV (by rfl) Tryz.func17 rfl Tryz.ntmps17 rfl (fun w0 Rest => ?_)
  (repeat' (first | refine zss ?_ | refine zsO ?_ | (refine zsp ?_ ?_ <;> (intro hc; (try simp only [zhcs, reduceCtorEq] at hc); (try (exfalso; first | contradiction | omega | exact absurd rfl hc | exact absurd (by decide) hc))))))
  all_goals ((with_reducible apply At.retB1 (B := rr b p0 c0 l)); exact rfl; exact rfl; exact zml; exact zkp; exact ⟨rfl, rfl, rfl⟩)
theorem len {m : Mem} (b : Nat) (l : List Nmd) : Rd Tryz.prog 17 #[ptr b] m [R b l] (.int .i64 (l.length : Int)) := R.openR fun s => len0 b s.p s.c l
structure BG where
  (j : Nat) (p : Option Addr) (c : Nat)
abbrev oS (p : Option Addr) (c : Nat) (l : List (List UInt8)) : Res := .own Ls.fS 1 9 p c l
theorem tw_get {l : List Nmd} {f : Nmd → Bool} {j : Nat} (hj : j ≤ l.length) (h1 : ∀ i, i < j → f (l[i]!) = true) (h2 : j < l.length → f (l[j]!) = false) : l.takeWhile f = l.take j := by
  induction l generalizing j with
  | nil => simp
  | cons x l ih =>
    cases j with
    | zero =>
      have := h2 (by simp)
      rw [List.takeWhile_cons, if_neg (by simpa using this)]; rfl
    | succ j =>
      have h0 := h1 0 (by omega)
      rw [List.takeWhile_cons, if_pos (by simpa using h0), List.take_succ_cons]
      congr 1
      exact ih (by simpa using hj) (fun k hk => by simpa using h1 (k + 1) (by omega)) (fun hl => by simpa using h2 (by simpa using hl))
theorem begins0 {m : Mem} (b : Nat) (p0 : Option Addr) (c0 : Nat) (l : List Nmd) (t : List UInt8) (hs : srt l) (hl : l.length ≤ 1000000) :
    Ct Tryz.prog 32 #[ptr b, .string (str t)] m (rr b p0 c0 l) (fun v m' B => m = m' ∧ ∃ p c, v = .slice p ((begs l t).map Nmd.s).length c ∧ B = oS p c ((begs l t).map Nmd.s) :: rr b p0 c0 l) := by
  have ha := at_ (m := m) p0 c0 l t hs hl
  have hpl := pos_le l t
  have hbe := begs_at hs t
  obtain ⟨i, hi⟩ : ∃ i, pos l t = i := ⟨_, rfl⟩
  rw [hi] at ha hpl hbe
  have hdl : (l.drop i).length = l.length - i := List.length_drop ..
  refine Ct.enterV (by rfl) Tryz.func32 rfl Tryz.ntmps32 rfl (fun w0 Rest => ?_)
  (repeat' (first | refine zss ?_ | refine zsO ?_ | ((with_reducible first | apply At.c1 | apply At.c0); exact rfl; exact rfl; exact ha; exact ztk; kernel_rfl; rintro v' m' B' hm' ⟨rfl, rfl, rfl⟩; (try replace sl1 := sl1.mono hm'); (try (have hq0 : hm' = Mem.le_refl _ := rfl; clear hq0 hm'))) | ((with_reducible apply At.alloc (d := 9)); exact rfl; exact rfl; intro b9) | (refine zsp ?_ ?_ <;> (intro hc; (try simp only [zhcs, reduceCtorEq] at hc); (try (exfalso; first | contradiction | omega | exact absurd rfl hc | exact absurd (by decide) hc))))))
  all_goals refine At.own_nil Ls.fS 1 9 ?_
  all_goals
    (refine At.loopk (σ := BG) [1, 24, 25] (fun s F0 => (7, .slice s.p (((l.drop i).take s.j).map Nmd.s).length s.c) :: (26, .int .i64 (s.j : Int)) :: F0) (fun s => m) (fun s => oS s.p s.c (((l.drop i).take s.j).map Nmd.s) :: .blk b 92 [.slice p0 l.length c0] :: oT p0 c0 l :: Rest) (fun s => s.j ≤ l.length - i ∧ ∀ k, k < s.j → t <+: ((l.drop i)[k]!).s) (fun s => l.length - i - s.j) ⟨0, none, 0⟩ (by rfl) ?_ zsubs zml zente ?_)
    · exact ⟨Nat.zero_le _, fun k h => absurd h (Nat.not_lt_zero k)⟩
    rintro ⟨j, p, c⟩ ⟨hj, hall⟩
    dsimp only at hj hall ⊢
    have hrd := fun (Rs Rs' : List Res) (hp : Pick Rs (oT p0 c0 l) Rs') => (own_rdb (w0 := w0) (m := m) (f := cells) (sz := 2) (p := p0) (c := c0) (l := l) inferInstance hp).subl i hpl
    have hml : (((l.drop i).take j).map Nmd.s).length = j := by rw [List.length_map, List.length_take, hdl]; omega
    by_cases h : j < l.length - i
    · have hpre := hasPre ((l.drop i)[j]!).s t
      by_cases hb : t <+: ((l.drop i)[j]!).s
      · rw [decide_eq_true hb] at hpre
        have hsn : ((l.drop i).take (j + 1)).map Nmd.s = ((l.drop i).take j).map Nmd.s ++ [((l.drop i)[j]!).s] := by rw [Ls.take_snoc (by omega), List.map_append]; rfl
        (repeat' (first | refine zss ?_ | ((first | (with_reducible first | apply At.val | apply AtQ.val)); (first | exact pr_indexAddr (k := j) (hrd _ _ (by repeat constructor)) (by rfl) (by rfl) (by rfl) (by rfl) (by omega) (by omega) | exact pr_load_slN (k := j) (hrd _ _ (by repeat constructor)) (by omega) (by rfl) (by rfl) (by rfl) (by rfl)); exact rfl) | refine zs0 ?_ | ((with_reducible first | apply AtM1.callp | apply AtQ.callp | apply At.callp); kernel_rfl; exact rfl; exact rfl; exact hpre) | ((with_reducible apply At.litF Ls.fS [((l.drop i)[j]!).s]); exact inferInstance; (iterate 7 exact rfl); intro b' m' hm' sl1; skip) | ((with_reducible apply At.apW (f := Ls.fS) (l := ((l.drop i).take j).map Nmd.s)); exact rfl; exact rfl; exact (by repeat constructor); exact inferInstance; exact zrdl; (iterate 4 exact rfl); exact zom; exact rfl; intro p2 c2) | ((with_reducible apply At.alloc (d := 9)); exact rfl; exact rfl; intro b9) | (refine zsp ?_ ?_ <;> (intro hc; (try simp only [zhcs, reduceCtorEq] at hc); (try (exfalso; first | omega | contradiction | omega | exact absurd rfl hc | exact absurd (by decide) hc))))))
        all_goals rw [← hsn]
        all_goals ((with_reducible refine At.reachk ((⟨j + 1, p2, c2⟩ : BG)) ?_ ?_ ?_ ?_); exact zsubs; exact zml; exact zente; exact ⟨⟨h, fun k hk => by
          by_cases e : k = j
          · subst e; exact hb
          · exact hall k (by have : k < j + 1 := hk; omega)⟩, by show l.length - i - (j + 1) < l.length - i - j; omega⟩)
      · rw [decide_eq_false hb] at hpre
        have hB : begs l t = (l.drop i).take j := by rw [← hbe]; exact tw_get (by omega) (fun k hk => decide_eq_true (hall k hk)) (fun _ => decide_eq_false hb)
        rw [hB]
        (repeat' (first | refine zss ?_ | ((first | (with_reducible first | apply At.val | apply AtQ.val)); (first | exact pr_indexAddr (k := j) (hrd _ _ (by repeat constructor)) (by rfl) (by rfl) (by rfl) (by rfl) (by omega) (by omega) | exact pr_load_slN (k := j) (hrd _ _ (by repeat constructor)) (by omega) (by rfl) (by rfl) (by rfl) (by rfl)); exact rfl) | refine zs0 ?_ | ((with_reducible first | apply AtM1.callp | apply AtQ.callp | apply At.callp); kernel_rfl; exact rfl; exact rfl; exact hpre) | ((with_reducible apply At.alloc (d := 9)); exact rfl; exact rfl; intro b9) | (refine zsp ?_ ?_ <;> (intro hc; (try simp only [zhcs, reduceCtorEq] at hc); (try (exfalso; first | omega | contradiction | omega | exact absurd rfl hc | exact absurd (by decide) hc))))))
        all_goals ((with_reducible apply At.retB1 (B := [oS _ _ _, .blk b 92 [.slice p0 l.length c0], oT p0 c0 l])); exact rfl; exact rfl; exact zml; exact zkp; exact ⟨rfl, _, _, rfl, rfl⟩)
    · have hB : begs l t = (l.drop i).take j := by rw [← hbe]; exact tw_get (by omega) (fun k hk => decide_eq_true (hall k hk)) (fun h' => by omega)
      rw [hB]
      (repeat' (first | refine zss ?_ | refine zs0 ?_ | ((with_reducible apply At.alloc (d := 9)); exact rfl; exact rfl; intro b9) | (refine zsp ?_ ?_ <;> (intro hc; (try simp only [zhcs, reduceCtorEq] at hc); (try (exfalso; first | omega | contradiction | omega | exact absurd rfl hc | exact absurd (by decide) hc))))))
      all_goals ((with_reducible apply At.retB1 (B := [oS _ _ _, .blk b 92 [.slice p0 l.length c0], oT p0 c0 l])); exact rfl; exact rfl; exact zml; exact zkp; exact ⟨rfl, _, _, rfl, rfl⟩)
theorem begins {m : Mem} (b : Nat) (l : List Nmd) (t : List UInt8) (hs : srt l) (hl : l.length ≤ 1000000) :
    Ct Tryz.prog 32 #[ptr b, .string (str t)] m [R b l] (fun v m' B => m = m' ∧ ∃ p c, v = .slice p ((begs l t).map Nmd.s).length c ∧ B = [oS p c ((begs l t).map Nmd.s), R b l]) :=
  R.open fun s => Ct.conv (begins0 b s.p s.c l t hs hl) fun v m' B _ ⟨h1, p, c, h2, h3⟩ => ⟨_, ⟨h1, p, c, h2, rfl⟩, fun Rest => by subst h3; exact Ent.cons _ (R.close s.p s.c Rest)⟩
theorem all {m : Mem} (b : Nat) (l : List Nmd) (hs : srt l) (hl : l.length ≤ 1000000) :
    Ct Tryz.prog 20 #[ptr b] m [R b l] (fun v m' B => m = m' ∧ ∃ p c, v = .slice p (l.map Nmd.s).length c ∧ B = [oS p c (l.map Nmd.s), R b l]) := by
  have hb := begins (m := m) b l [] hs hl
  rw [begs_nil] at hb
  refine Ct.enterV (by rfl) Tryz.func20 rfl Tryz.ntmps20 rfl (fun w0 Rest => ?_)
  (repeat' (first | refine zss ?_ | refine zsO ?_ | ((with_reducible first | apply At.c1 | apply At.c0); exact rfl; exact rfl; exact hb; exact ztk; kernel_rfl; rintro v' m' B' hm' ⟨rfl, p, c, rfl, rfl⟩; skip; (try (have hq0 : hm' = Mem.le_refl _ := rfl; clear hq0 hm'))) | (refine zsp ?_ ?_ <;> (intro hc; (try simp only [zhcs, reduceCtorEq] at hc); (try (exfalso; first | contradiction | omega | exact absurd rfl hc | exact absurd (by decide) hc))))))
  all_goals ((with_reducible apply At.retB1 (B := [oS _ _ _, R b l])); exact rfl; exact rfl; exact zml; exact zkp; exact ⟨rfl, _, _, rfl, rfl⟩)
end Nm
end Go.Proofs.YtjdlnckifhifbaaGreat
/- Names that have places, and places that are free, plain. -/
set_option linter.unusedSimpArgs false
set_option linter.unusedVariables false
set_option linter.unusedSectionVars false
set_option maxRecDepth 20000
set_option maxHeartbeats 4000000
namespace Go.Proofs.YtjdlnckifhifbaaGreat
open Go Go.J
namespace Pl
open Nm Fr
theorem drop_perm {w : List Nmd} {t : List UInt8} (hs : srt w) (h : has w t = true) : w.Perm (w[pos w t]! :: dropL w t) ∧ w[pos w t]! ∈ w ∧ getP w t = (w[pos w t]!).p := by
  rw [has_pos hs, decide_eq_true_eq] at h
  obtain ⟨h1, h2⟩ := h
  have h3 := drop_at hs h1
  rw [h2] at h3
  have e : w = w.take (pos w t) ++ w[pos w t]! :: w.drop (pos w t + 1) := by
    rw [getElem!_pos w _ h1, List.getElem_cons_drop, List.take_append_drop]
  refine ⟨?_, by rw [getElem!_pos w _ h1]; exact List.getElem_mem _, ?_⟩
  · rw [← h3]
    conv => lhs; rw [e]
    exact List.perm_middle
  · unfold getP
    rw [if_pos (by rw [has_pos hs]; exact decide_eq_true ⟨h1, h2⟩)]
theorem put_perm {w : List Nmd} {t : List UInt8} {p : Int} (h : has w t = false) : (putL w t p).Perm (⟨t, p⟩ :: w) := by
  unfold putL
  rw [if_neg (by rw [h]; decide)]
  unfold ins
  rw [List.append_assoc]
  conv => rhs; rw [← List.take_append_drop (pos w t) w]
  exact List.perm_middle
/-- each name has a place of its own, all others are free -/
structure PI (n : Nat) (w : List Nmd) (buf : List Nat) : Prop where
  gd : good n buf
  pk : ∀ x ∈ w, 0 ≤ x.p ∧ x.p < n
  nd : (w.map fun x => x.p.toNat).Nodup
  dj : ∀ x ∈ w, x.p.toNat ∉ buf
  len : w.length + buf.length = n
theorem PI.perm {n : Nat} {w w' : List Nmd} {buf : List Nat} (h : PI n w buf) (hp : w.Perm w') : PI n w' buf :=
  ⟨h.gd, fun x hx => h.pk x (hp.mem_iff.2 hx), (hp.map _).nodup_iff.1 h.nd, fun x hx => h.dj x (hp.mem_iff.2 hx), by rw [← hp.length_eq]; exact h.len⟩
theorem PI.new (n : Nat) : PI n [] (List.range n) :=
  ⟨good_range (Nat.le_refl n), fun _ h => absurd h List.not_mem_nil, List.nodup_nil, fun _ h => absurd h List.not_mem_nil, by simp⟩
theorem PI.drop {n : Nat} {w : List Nmd} {buf : List Nat} {t : List UInt8} (h : PI n w buf) (hs : srt w) (hh : has w t = true) :
    (0 ≤ getP w t ∧ getP w t < n) ∧ may n buf (getP w t) = true ∧ PI n (dropL w t) (giv n buf (getP w t)) := by
  obtain ⟨hp, hm, e⟩ := drop_perm hs hh
  rw [e]
  obtain ⟨h1, h2⟩ := h.pk _ hm
  have h3 := h.dj _ hm
  have hmay : may n buf (w[pos w t]!).p = true := by unfold may; exact decide_eq_true ⟨h1, h2, h3⟩
  have hI := h.perm hp
  have hnd := hI.nd
  rw [List.map_cons, List.nodup_cons] at hnd
  have e2 : giv n buf (w[pos w t]!).p = buf ++ [(w[pos w t]!).p.toNat] := by unfold giv; rw [hmay]; rfl
  refine ⟨⟨h1, h2⟩, hmay, h.gd.giv _, fun x hx => hI.pk x (List.mem_cons_of_mem _ hx), hnd.2, fun x hx => ?_, ?_⟩
  · rw [e2, List.mem_append, List.mem_singleton]
    rintro (h4 | h4)
    · exact hI.dj x (List.mem_cons_of_mem _ hx) h4
    · exact hnd.1 (List.mem_map.2 ⟨x, hx, h4⟩)
  · have := hI.len
    rw [List.length_cons] at this
    rw [e2, List.length_append, List.length_singleton]
    omega
theorem PI.take {n q : Nat} {w : List Nmd} {buf : List Nat} {t : List UInt8} (h : PI n w (q :: buf)) (hh : has w t = false) : q < n ∧ PI n (putL w t (q : Int)) buf := by
  obtain ⟨g1, g2, g3⟩ := h.gd.tail
  have hl := h.len
  rw [List.length_cons] at hl
  refine ⟨g1, PI.perm (w := ⟨t, (q : Int)⟩ :: w) ⟨g3, fun x hx => ?_, ?_, fun x hx => ?_, by rw [List.length_cons]; omega⟩ (put_perm hh).symm⟩
  · rcases List.mem_cons.1 hx with rfl | hx
    · exact ⟨by show (0 : Int) ≤ q; omega, by show (q : Int) < n; omega⟩
    · exact h.pk x hx
  · rw [List.map_cons, List.nodup_cons]
    refine ⟨fun hq => ?_, h.nd⟩
    obtain ⟨x, hx, e⟩ := List.mem_map.1 hq
    exact h.dj x hx (by rw [e]; exact List.mem_cons_self ..)
  · rcases List.mem_cons.1 hx with rfl | hx
    · exact g2
    · exact fun hq => h.dj x hx (List.mem_cons_of_mem _ hq)
/-- what was seen -/
theorem seen_step {n : Nat} {w : List Nmd} {buf : List Nat} (h : PI n w buf) (hs : srt w) {i : Nat} (hi : i < w.length) :
    getP w (w[i]!).s = (w[i]!).p ∧ has w (w[i]!).s = true ∧ (w[i]!).p = ((w[i]!).p.toNat : Int) ∧ (w[i]!).p.toNat < n ∧
      (tab n ((w.take i).map fun x => x.p.toNat))[(w[i]!).p.toNat]! = false ∧ (tab n ((w.take i).map fun x => x.p.toNat)).set (w[i]!).p.toNat true = tab n ((w.take (i + 1)).map fun x => x.p.toNat) := by
  have hm : w[i]! ∈ w := Ls.mem! hi
  obtain ⟨h1, h2⟩ := h.pk _ hm
  have hh : has w (w[i]!).s = true := has_iff.2 ⟨i, hi, rfl⟩
  have hps := at_has hs hi (t := (w[i]!).s) rfl
  have hsn := Ls.take_snoc hi
  have hnd : ((w.take (i + 1)).map fun x => x.p.toNat).Nodup := h.nd.sublist ((List.take_sublist _ _).map _)
  rw [hsn, List.map_append, List.map_singleton] at hnd
  have hni : (w[i]!).p.toNat ∉ (w.take i).map fun x => x.p.toNat := fun hq => (List.nodup_append.1 hnd).2.2 _ hq _ (List.mem_singleton.2 rfl) rfl
  refine ⟨by unfold getP; rw [if_pos hh, hps], hh, by omega, by omega, by rw [tab_get (by omega), decide_eq_false hni], ?_⟩
  rw [hsn, List.map_append, List.map_singleton]
  exact tab_set (by omega) (by rw [decide_eq_true]; simp) (fun j hj => by rw [List.mem_append, List.mem_singleton]; exact ⟨fun k => k.resolve_right hj, .inl⟩)
theorem free_step {n : Nat} {w : List Nmd} {buf : List Nat} (h : PI n w buf) {i : Nat} (hi : i < buf.length) :
    buf.drop i = buf[i]! :: buf.drop (i + 1) ∧ good n (buf.drop i) ∧ buf[i]! < n ∧ (tab n ((w.map fun x => x.p.toNat) ++ buf.take i))[buf[i]!]! = false ∧
      (tab n ((w.map fun x => x.p.toNat) ++ buf.take i)).set buf[i]! true = tab n ((w.map fun x => x.p.toNat) ++ buf.take (i + 1)) := by
  have hm : buf[i]! ∈ buf := Ls.mem! hi
  have hlt := h.gd.2 _ hm
  have hsn := Ls.take_snoc hi
  have hnd : (buf.take (i + 1)).Nodup := h.gd.1.sublist (List.take_sublist _ _)
  rw [hsn] at hnd
  have hni : buf[i]! ∉ buf.take i := fun hq => (List.nodup_append.1 hnd).2.2 _ hq _ (List.mem_singleton.2 rfl) rfl
  have hnw : buf[i]! ∉ w.map fun x => x.p.toNat := fun hq => by
    obtain ⟨x, hx, e⟩ := List.mem_map.1 hq
    exact h.dj x hx (by rw [e]; exact hm)
  have hn2 : buf[i]! ∉ (w.map fun x => x.p.toNat) ++ buf.take i := fun hq => (List.mem_append.1 hq).elim hnw hni
  refine ⟨by rw [getElem!_pos buf i hi, List.getElem_cons_drop], ⟨h.gd.1.sublist (List.drop_sublist _ _), fun x hx => h.gd.2 x (List.mem_of_mem_drop hx)⟩, hlt, by rw [tab_get hlt, decide_eq_false hn2], ?_⟩
  rw [hsn, ← List.append_assoc]
  exact tab_set hlt (by rw [decide_eq_true]; simp) (fun j hj => by rw [List.mem_append (s := _ ++ buf.take i), List.mem_singleton]; exact ⟨fun k => k.resolve_right hj, .inl⟩)
end Pl
end Go.Proofs.YtjdlnckifhifbaaGreat
/- From a contract to a law's row: what a law's call leaves of memory. -/
set_option linter.unusedSimpArgs false
set_option linter.unusedVariables false
set_option linter.unusedSectionVars false
set_option maxRecDepth 20000
namespace Go.J
open Go Go.ChangeShapes Go.WideShapes Go.ChangeAt Go.RowKit

def memOf (W : World) : Mem := fun k => W.heap[k]?

theorem HW.init (W : World) : HW W (memOf W) [] W :=
  ⟨rfl, rfl, rfl, Nat.le_refl _, Nat.le_refl _, fun _ _ h => h, fun _ => False, fun _ h => h, fun _ h => h.elim⟩

theorem HW.below {W w' : World} {m' : Mem} {Rs : List Res} (h : HW W m' Rs w') (hm : (memOf W).le m') : Below W.heap.size W w' :=
  ⟨h.os, h.tape, h.output, h.size, fun k hk => by
    have hk' : W.heap[k]? = some W.heap[k] := Array.getElem?_eq_getElem hk
    rw [hk']
    exact h.mem k _ (hm k _ hk')⟩

theorem law_calls {P : Program} {f : FuncId} {args : Array Value} {W : World} (h : Ct P f args (memOf W) [] (fun v _ _ => v = .bool true)) :
    Calls P f args W fun e W' => e = .returned (.bool true) ∧ Below W.heap.size W W' :=
  (h W [] W (HW.init W)).mono fun _ _ ⟨_, _, _, he, hm, hv, hw⟩ => ⟨by rw [he, hv], hw.below hm⟩

theorem law_calls_pu {P : Program} {f : FuncId} {args : Array Value} {W : World} (h : Pu P f args (.bool true)) :
    Calls P f args W fun e W' => e = .returned (.bool true) ∧ Below W.heap.size W W' :=
  law_calls ((h (memOf W)).mono fun _ _ _ _ ⟨hv, _, _⟩ => hv)

/-- the arguments read as they did -/
theorem trodAll_below {H : Type} {enc : TypeId × Value → H} {P : Program} (hl : laidOutB P = true) {W W' : World} (hb : Below W.heap.size W W') :
    ∀ (ts : List TypeId) (vs : List Value) (ds : List (DataW H)) (ps : List MemPlace), (ts.all fun t => P.readableRec t && decide (t < P.types.size)) = true →
      DataW.TrodAll enc P W 0 (fun _ => true) true ts vs ds ps → (∀ x ∈ ps, x.block < W.heap.size) → DataW.TrodAll enc P W' 0 (fun b => decide (b < W.heap.size)) true ts vs ds ps
  | [], vs, ds, ps, _, h, _ => by
    obtain ⟨rfl, rfl, rfl⟩ := trodAll_nil h
    exact trodAll_mk0
  | t :: ts, vs, ds, ps, hr, h, hlt => by
    obtain ⟨v, vs', d, ds', p, q, rfl, rfl, rfl, h0, h1⟩ := trodAll_cons h
    simp only [List.all_cons, Bool.and_eq_true, decide_eq_true_eq] at hr
    exact trodAll_cons_mk (Below.trod hl hr.1.1 hr.1.2 h0 hb (fun x hx => hlt x (by simp [hx]))) (trodAll_below hl hb ts vs' ds' q hr.2 h1 (fun x hx => hlt x (by simp [hx])))

end Go.J
/- A law's slices: opened into lists. -/
set_option linter.unusedSimpArgs false
set_option linter.unusedVariables false
set_option linter.unusedSectionVars false
set_option maxRecDepth 20000
namespace Go.J
open Go Go.ChangeShapes Go.WideShapes Go.ChangeAt Go.RowKit

theorem cell_cells {w : World} {a : Addr} {v : Value} (h : w.cell? a = some v) : a.spot = none ∧ ∃ E cs fz, w.heap[a.block]? = some (.cells cs E fz) ∧ cs[a.off]? = some v := by
  unfold World.cell? at h
  cases hb : w.heap[a.block]? with
  | none => rw [hb] at h; cases h
  | some o =>
    rw [hb] at h
    cases o <;> simp at h
    rename_i cs E fz
    exact ⟨by
      cases hs : a.spot with
      | none => rfl
      | some x => rw [hs] at h; simp at h, E, cs, fz, rfl, h.2⟩

theorem open_sl {α : Type} [Inhabited α] {f : α → List Value} {sz : Nat} (hf : Fl f sz) (φ : α → Prop) {H : Type} {enc : TypeId × Value → H} {P : Program} {W : World} {t e : TypeId} {fuel : Nat} {cs : List Value} {x : DataW H × List MemPlace}
    (ht : P.underlying t = some (.slice e)) (hc : P.cellsOf e = sz)
    (hdec : ∀ n cs' y, cs'.length = sz → DataW.trod enc P W 0 (fun _ => true) true n e cs' = some y → ∃ a, cs' = f a ∧ φ a)
    (h : DataW.trod enc P W 0 (fun _ => true) true fuel t cs = some x) : ∃ p c l, cs = [.slice p l.length c] ∧ Sl (memOf W) f sz p c l ∧ ∀ a ∈ l, φ a := by
  rcases Go.Deep.open_slice ht h with ⟨rfl, _⟩ | ⟨a, len, cap, m, n, D, Pl, rfl, _, hl, hm, hmm, _, hx⟩
  · exact ⟨none, 0, [], rfl, Sl.empty _ hf, fun a ha => by cases ha⟩
  · simp only [if_true] at hmm
    subst hmm
    obtain ⟨A, hA⟩ := Go.Deep.choose_lt (α := α) (n := m) (p := fun i y => W.cells? 0 (a.add (i * sz)) sz = some (f y) ∧ φ y) (fun i hi => by
      obtain ⟨cs', h1, h2⟩ := hx i hi
      rw [hc] at h1
      obtain ⟨_, hlen, _⟩ := World.cells?_some h1
      obtain ⟨y, rfl, hy⟩ := hdec n cs' _ hlen h2
      exact ⟨y, h1, hy⟩)
    have hll : ((List.range len).map A).length = len := by simp
    refine ⟨some a, m, (List.range len).map A, by rw [hll], ⟨hf, by rw [hll]; exact hl, hm, (fun e => by cases e), fun a' ha' hpos => ?_⟩, fun y hy => ?_⟩
    · cases ha'
      have hsz := hf.pos
      have hcell : ∀ i j, i < m → j < sz → W.cell? ((a.add (i * sz)).add j) = (f (A i))[j]? := fun i j hi hj => (World.cells?_some (hA i hi).1).2.2 j hj
      have hlen : ∀ i j, j < sz → ∃ v, (f (A i))[j]? = some v := fun i j hj => ⟨(f (A i))[j]'(by rw [hf.len]; exact hj), List.getElem?_eq_getElem _⟩
      obtain ⟨v0, hv0⟩ := hlen 0 0 hsz
      have h00 := hcell 0 0 hpos hsz
      rw [hv0] at h00
      have e0 : (a.add (0 * sz)).add 0 = a := by simp [Addr.add]
      rw [e0] at h00
      obtain ⟨hspot, E, cs, fz, hb, _⟩ := cell_cells h00
      have ea : ∀ k, a.add k = ⟨a.block, a.off + k, none⟩ := fun k => by cases a; simp only at hspot; subst hspot; exact Addr.add_eq _ _ _
      have hcell' : ∀ i j, i < m → j < sz → cs[a.off + (i * sz + j)]? = (f (A i))[j]? := fun i j hi hj => by
        have := hcell i j hi hj
        rw [ea, Addr.add_eq, World.cell_of hb] at this
        rw [← this, Nat.add_assoc]
      refine ⟨hspot, E, cs, fz, hb, ?_, fun i j hi hj => ?_⟩
      · obtain ⟨v, hv⟩ := hlen (m - 1) (sz - 1) (by omega)
        have h1 := hcell' (m - 1) (sz - 1) (by omega) (by omega)
        rw [hv] at h1
        have h2 := (Array.getElem?_eq_some_iff.1 h1).1
        have h3 : (m - 1) * sz + sz = m * sz := by
          have := Nat.succ_mul (m - 1) sz
          rw [show (m - 1).succ = m by omega] at this; omega
        omega
      · rw [hll] at hi
        rw [hcell' i j (by omega) hj]
        congr 2
        rw [List.getElem!_eq_getElem?_getD]; simp [hi]
    · obtain ⟨i, hi, rfl⟩ := List.mem_map.1 hy
      exact (hA i (by have := List.mem_range.1 hi; omega)).2

/-- a law's argument that is a slice -/
theorem open_sl_arg {α : Type} [Inhabited α] {f : α → List Value} {sz : Nat} (hf : Fl f sz) (φ : α → Prop) {H : Type} {enc : TypeId × Value → H} {P : Program} {W : World} {t e : TypeId} {v : Value} {d : DataW H} {ps : List MemPlace}
    (ht : P.underlying t = some (.slice e)) (hc : P.cellsOf e = sz)
    (hdec : ∀ n cs' y, cs'.length = sz → DataW.trod enc P W 0 (fun _ => true) true n e cs' = some y → ∃ a, cs' = f a ∧ φ a)
    (hsl : ∃ p l c, v = .slice p l c) (h : DataW.Trod enc P W 0 (fun _ => true) true t v d ps) : ∃ p c l, v = .slice p l.length c ∧ Sl (memOf W) f sz p c l ∧ ∀ a ∈ l, φ a := by
  obtain ⟨fuel, hfl⟩ := h
  obtain ⟨p0, l0, c0, rfl⟩ := hsl
  obtain ⟨p, c, l, h1, h2⟩ := open_sl hf φ ht hc hdec hfl
  refine ⟨p, c, l, ?_, h2⟩
  simpa [Value.cells] using h1

theorem dec_int {H : Type} {enc : TypeId × Value → H} {P : Program} {W : World} {e : TypeId} {k : IntKind} (he : P.underlying e = some (.int k)) : ∀ n cs' y, cs'.length = 1 → DataW.trod enc P W 0 (fun _ => true) true n e cs' = some y → ∃ a : Int, cs' = [.int k a] ∧ (Lit.int k a).wf = true := fun n cs' y _ h => by
  obtain ⟨a, h1, _, h3⟩ := DataW.trod_int he h
  exact ⟨a, h1, h3⟩
end Go.J
/- A law's arguments of any plain make: structs of whole numbers, truth values, texts, and slices, opened into their cells. -/
set_option linter.unusedSimpArgs false
set_option linter.unusedVariables false
set_option linter.unusedSectionVars false
set_option maxRecDepth 20000
namespace Go.J
open Go Go.ChangeShapes Go.WideShapes Go.ChangeAt Go.RowKit

inductive LK
  | int (k : IntKind)
  | bool
  | str
  | sl (t : TypeId)

section
variable {H : Type} {enc : TypeId × Value → H} {P : Program} {W : World}

def Fit1 (enc : TypeId × Value → H) (P : Program) (W : World) : LK → Value → Prop
  | .int k, v => ∃ a, v = .int k a ∧ (Lit.int k a).wf = true
  | .bool, v => ∃ b, v = .bool b
  | .str, v => ∃ l, v = .string (str l) ∧ l.length ≤ maxLen
  | .sl t, v => ∃ n y, DataW.trod enc P W 0 (fun _ => true) true n t [v] = some y
def Fit (enc : TypeId × Value → H) (P : Program) (W : World) : List LK → List Value → Prop
  | [], [] => True
  | k :: ks, v :: vs => Fit1 enc P W k v ∧ Fit enc P W ks vs
  | _, _ => False
theorem Fit.append : ∀ {a b : List LK} {x y : List Value}, Fit enc P W a x → Fit enc P W b y → Fit enc P W (a ++ b) (x ++ y)
  | [], _, [], _, _, h => h
  | _ :: _, _, _ :: _, _, ⟨h1, h2⟩, h => ⟨h1, Fit.append h2 h⟩
  | [], _, _ :: _, _, h, _ => h.elim
  | _ :: _, _, [], _, h, _ => h.elim

theorem Fit.cons {k : LK} {ks : List LK} {cs : List Value} (h : Fit enc P W (k :: ks) cs) : ∃ v vs, cs = v :: vs ∧ Fit1 enc P W k v ∧ Fit enc P W ks vs := by
  cases cs with
  | nil => exact h.elim
  | cons v vs => exact ⟨v, vs, rfl, h.1, h.2⟩
theorem Fit.nil {cs : List Value} (h : Fit enc P W [] cs) : cs = [] := by
  cases cs with
  | nil => rfl
  | cons v vs => exact h.elim
theorem Fit1.int {k : IntKind} {v : Value} (h : Fit1 enc P W (.int k) v) : ∃ a, v = .int k a ∧ (Lit.int k a).wf = true := h
theorem Fit1.bool {v : Value} (h : Fit1 enc P W .bool v) : ∃ b, v = .bool b := h
theorem Fit1.str {v : Value} (h : Fit1 enc P W .str v) : ∃ l, v = .string (J.str l) ∧ l.length ≤ maxLen := h

def leavesF (P : Program) (rec : TypeId → Option (List LK)) (total : Nat) : Nat → List Field → Option (List LK)
  | off, [] => match Nat.beq off total with
    | true => some []
    | false => none
  | off, f :: fs => match Nat.beq f.offset off with
    | true => match rec f.type with
      | some a => match leavesF P rec total (off + P.cellsOf f.type) fs with
        | some b => some (a ++ b)
        | none => none
      | none => none
    | false => none
def leavesB (P : Program) : Nat → TypeId → Option (List LK)
  | 0, _ => none
  | d + 1, t => match P.underlying t with
    | some (.int k) => some [.int k]
    | some .bool => some [.bool]
    | some .string => some [.str]
    | some (.slice _) => some [.sl t]
    | some (.struct fs) => leavesF P (leavesB P d) (P.cellsOf t) 0 fs.toList
    | some (.array n e) => match leavesB P d e with
      | some a => match Nat.beq (P.cellsOf t) (n * P.cellsOf e) with
        | true => some (List.replicate n a).flatten
        | false => none
      | none => none
    | _ => none

theorem trod_bool' {t : TypeId} {n : Nat} {cs : List Value} {x : DataW H × List MemPlace} (ht : P.underlying t = some .bool) (h : DataW.trod enc P W 0 (fun _ => true) true n t cs = some x) : ∃ b, cs = [.bool b] := by
  cases n with
  | zero => simp [DataW.trod] at h
  | succ n =>
    unfold DataW.trod at h
    rw [ht] at h
    split at h <;> simp_all

theorem trod_fit : ∀ (d n : Nat) (t : TypeId) (cs : List Value) (x : DataW H × List MemPlace) (ks : List LK), leavesB P d t = some ks → DataW.trod enc P W 0 (fun _ => true) true n t cs = some x → Fit enc P W ks cs
  | 0, _, _, _, _, _, h, _ => by cases h
  | d + 1, n, t, cs, x, ks, h, hx => by
    have ih := trod_fit d
    unfold leavesB at h
    cases hu : P.underlying t with
    | none => rw [hu] at h; cases h
    | some u =>
      rw [hu] at h
      cases u <;> simp only at h <;> try (cases h; done)
      case int k =>
        cases h
        obtain ⟨a, rfl, _, h3⟩ := DataW.trod_int hu hx
        exact ⟨⟨a, rfl, h3⟩, trivial⟩
      case bool =>
        cases h
        obtain ⟨b, rfl⟩ := trod_bool' hu hx
        exact ⟨⟨b, rfl⟩, trivial⟩
      case string =>
        cases h
        obtain ⟨s, rfl, _, h3⟩ := DataW.trod_string hu hx
        obtain ⟨l, rfl⟩ := str_of s
        exact ⟨⟨l, rfl, by rw [str_size] at h3; exact h3⟩, trivial⟩
      case slice e =>
        cases h
        have : ∃ v, cs = [v] := by
          rcases DataW.trod_slice hu hx with ⟨rfl, _⟩ | ⟨a, len, cap, _, _, _, _, rfl, _⟩
          · exact ⟨_, rfl⟩
          · exact ⟨_, rfl⟩
        obtain ⟨v, rfl⟩ := this
        exact ⟨⟨n, x, hx⟩, trivial⟩
      case array k e =>
        cases h1 : leavesB P d e with
        | none => rw [h1] at h; cases h
        | some a =>
          rw [h1] at h
          simp only at h
          cases hb : Nat.beq (P.cellsOf t) (k * P.cellsOf e) with
          | false => rw [hb] at h; cases h
          | true =>
            rw [hb] at h
            cases h
            have hl0 := Nat.eq_of_beq_eq_true hb
            obtain ⟨xs, m, _, _, hlen, hxl, hf⟩ := DataW.trod_array hu hx
            have key : ∀ i, i ≤ k → Fit enc P W ((List.replicate i a).flatten) (cs.drop ((k - i) * P.cellsOf e)) := by
              intro i
              induction i with
              | zero =>
                intro _
                rw [List.drop_eq_nil_of_le (by rw [hlen, hl0, Nat.sub_zero]; exact Nat.le_refl _)]
                trivial
              | succ i ih2 =>
                intro hi
                have e1 := hf (k - (i + 1)) (by omega)
                have hj : k - (i + 1) < xs.length := by omega
                rw [List.getElem?_eq_getElem hj] at e1
                have g1 := ih m e _ _ a h1 e1
                have g2 := ih2 (by omega)
                have e2 : (k - (i + 1)) * P.cellsOf e + P.cellsOf e = (k - i) * P.cellsOf e := by rw [← Nat.succ_mul]; congr 1; omega
                rw [List.replicate_succ, List.flatten_cons, show cs.drop ((k - (i + 1)) * P.cellsOf e) = (cs.drop ((k - (i + 1)) * P.cellsOf e)).take (P.cellsOf e) ++ cs.drop ((k - i) * P.cellsOf e) by
                  rw [← e2, ← List.drop_drop, List.take_append_drop]]
                exact Fit.append g1 g2
            have := key k (Nat.le_refl _)
            simpa using this
      case struct fs =>
        obtain ⟨xs, n', _, _, hlen, hxs, hf⟩ := DataW.trod_struct hu hx
        have hf' : ∀ f ∈ fs.toList, ∃ y, DataW.trod enc P W 0 (fun _ => true) true n' f.type ((cs.drop f.offset).take (P.cellsOf f.type)) = some y := fun f hm => by
          obtain ⟨i, hi, he⟩ := List.mem_iff_getElem.1 hm
          have hi' : i < fs.size := by simpa using hi
          have h1 : fs[i]? = some f := by
            rw [Array.getElem?_eq_getElem hi']
            congr 1
          exact ⟨xs[i], by rw [hf i f h1, List.getElem?_eq_getElem]⟩
        have key : ∀ (l : List Field) (off : Nat) (ks : List LK), (∀ f ∈ l, ∃ y, DataW.trod enc P W 0 (fun _ => true) true n' f.type ((cs.drop f.offset).take (P.cellsOf f.type)) = some y) →
            leavesF P (leavesB P d) (P.cellsOf t) off l = some ks → Fit enc P W ks (cs.drop off) := by
          intro l
          induction l with
          | nil =>
            intro off ks _ h
            unfold leavesF at h
            cases hb : Nat.beq off (P.cellsOf t) with
            | false => rw [hb] at h; cases h
            | true =>
              rw [hb] at h
              cases h
              have := Nat.eq_of_beq_eq_true hb
              rw [List.drop_eq_nil_of_le (by omega)]
              trivial
          | cons f l ihl =>
            intro off ks hl h
            unfold leavesF at h
            cases hb : Nat.beq f.offset off with
            | false => rw [hb] at h; cases h
            | true =>
              rw [hb] at h
              simp only at h
              have hoff := Nat.eq_of_beq_eq_true hb
              cases h1 : leavesB P d f.type with
              | none => rw [h1] at h; cases h
              | some a =>
                rw [h1] at h
                simp only at h
                cases h2 : leavesF P (leavesB P d) (P.cellsOf t) (off + P.cellsOf f.type) l with
                | none => rw [h2] at h; cases h
                | some b =>
                  rw [h2] at h
                  cases h
                  obtain ⟨y, hy⟩ := hl f (List.mem_cons_self ..)
                  rw [hoff] at hy
                  have g1 := ih n' f.type _ y a h1 hy
                  have g2 := ihl (off + P.cellsOf f.type) b (fun g hg => hl g (List.mem_cons_of_mem _ hg)) h2
                  rw [show cs.drop off = (cs.drop off).take (P.cellsOf f.type) ++ cs.drop (off + P.cellsOf f.type) by
                    rw [← List.drop_drop, List.take_append_drop]]
                  exact Fit.append g1 g2
        have := key fs.toList 0 ks hf' h
        simpa using this

/-- an element of a slice, by its leaves -/
theorem dec_flat {α : Type} {f : α → List Value} {φ : α → Prop} {e : TypeId} (ks : List LK) (hk : leavesB P 6 e = some ks) (h : ∀ cs, Fit enc P W ks cs → ∃ a, cs = f a ∧ φ a) :
    ∀ n cs' y, cs'.length = P.cellsOf e → DataW.trod enc P W 0 (fun _ => true) true n e cs' = some y → ∃ a, cs' = f a ∧ φ a := fun n cs' y _ hy =>
  h cs' (trod_fit 6 n e cs' y ks hk hy)
theorem dec_flat' {α : Type} {f : α → List Value} {φ : α → Prop} {e : TypeId} {sz : Nat} (ks : List LK) (hk : leavesB P 6 e = some ks) (h : ∀ cs, Fit enc P W ks cs → ∃ a, cs = f a ∧ φ a) :
    ∀ n cs' y, cs'.length = sz → DataW.trod enc P W 0 (fun _ => true) true n e cs' = some y → ∃ a, cs' = f a ∧ φ a := fun n cs' y _ hy =>
  h cs' (trod_fit 6 n e cs' y ks hk hy)
/-- an argument that is a struct -/
theorem open_flat_arg {α : Type} {f : α → List Value} {φ : α → Prop} {t : TypeId} {fs : Array Field} {base : Nat} {v : Value} {d : DataW H} {ps : List MemPlace} (ks : List LK) (ht : P.underlying t = some (.struct fs)) (hk : leavesB P 6 t = some ks)
    (h : ∀ cs, Fit enc P W ks cs → ∃ a, cs = f a ∧ φ a) {r : Reach} (hv : Value.okWide P W r base t v) (hx : DataW.Trod enc P W 0 (fun _ => true) true t v d ps) : ∃ a, v = .agg (f a).toArray ∧ φ a := by
  obtain ⟨cs, rfl, _⟩ := okWide_struct ht hv
  obtain ⟨fuel, hfl⟩ := hx
  obtain ⟨a, h1, h2⟩ := h _ (trod_fit 6 fuel t _ _ ks hk hfl)
  refine ⟨a, ?_, h2⟩
  have : cs.toList = f a := by simpa [Value.cells] using h1
  rw [← this]
/-- a slice that is part of something -/
theorem Fit1.sl {α : Type} [Inhabited α] {f : α → List Value} {sz : Nat} (hf : Fl f sz) (φ : α → Prop) {t e : TypeId} {v : Value} (ht : P.underlying t = some (.slice e)) (hc : P.cellsOf e = sz)
    (hdec : ∀ n cs' y, cs'.length = sz → DataW.trod enc P W 0 (fun _ => true) true n e cs' = some y → ∃ a, cs' = f a ∧ φ a) (h : Fit1 enc P W (.sl t) v) : ∃ p c l, v = .slice p l.length c ∧ Sl (memOf W) f sz p c l ∧ ∀ a ∈ l, φ a := by
  obtain ⟨n, y, hy⟩ := h
  obtain ⟨p, c, l, h1, h2⟩ := open_sl hf φ ht hc hdec hy
  exact ⟨p, c, l, by simpa using h1, h2⟩
end
end Go.J
