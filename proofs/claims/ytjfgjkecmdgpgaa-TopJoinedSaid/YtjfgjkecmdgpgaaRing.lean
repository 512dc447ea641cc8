/- The contracts of the ring of whole numbers. -/
import Derived.Test.YtjfgjkecmdgpgaaRows
import Derived.Test.YtjfgjkecmdgpgaaRing1
set_option linter.unusedSimpArgs false
set_option linter.unusedVariables false
set_option linter.unusedSectionVars false
set_option maxRecDepth 20000
namespace Go.Proofs.Ytjfgjkecmdgpgaa
open Go Go.J
attribute [local irreducible] At AtQ AtM AtM1 PR Ct Pu Rd Res.blk Res.own Res.ex

namespace Ring
/-! ### the same, by what a ring has -/
theorem R.openR {m : Mem} {f : FuncId} {args : Array Value} {b room : Nat} {lost : Int} {cont : List Elt} {V : Value} (h : ∀ s : St, inv room cont s → Rd Try.prog f args m (rr b room s.p s.c s.fr lost s.l) V) : Rd Try.prog f args m [R b room lost cont] V :=
  Rd.openx fun s hs => by rw [List.append_nil]; exact h s hs
theorem R.open {m : Mem} {f : FuncId} {args : Array Value} {b room : Nat} {lost : Int} {cont : List Elt} {Q : Value → Mem → List Res → Prop} (h : ∀ s : St, inv room cont s → Ct Try.prog f args m (rr b room s.p s.c s.fr lost s.l) Q) : Ct Try.prog f args m [R b room lost cont] Q :=
  Ct.openx fun s hs => by rw [List.append_nil]; exact h s hs
theorem R.close {b room : Nat} {lost : Int} {cont : List Elt} (s : St) (hs : inv room cont s) (Rest : List Res) : Ent (rr b room s.p s.c s.fr lost s.l ++ Rest) (R b room lost cont :: Rest) := Ent.closex (A := fun s => rr b room s.p s.c s.fr lost s.l) s hs

theorem ringLen {m : Mem} (b room : Nat) (lost : Int) (cont : List Elt) : Rd Try.prog 19 #[ptr b] m [R b room lost cont] (.int .i64 (cont.length : Int)) :=
  R.openR fun s hs => by rw [← hs.len]; exact Rd.frame (ring_len b room s.p s.l.length s.c s.fr lost) (by (repeat' (first | exact Take.nil | ((with_reducible apply Take.cons); (focus ((repeat constructor); done))))))
theorem ringPut {m : Mem} (b room : Nat) (lost : Int) (cont : List Elt) (x : Elt) (h0 : 1 ≤ room) (hr : room ≤ 65536) (h3 : 0 ≤ lost ∧ lost ≤ 4611686018427387904) :
    Ct Try.prog 18 #[ptr b, val x] m [R b room lost cont] (fun v m' B => v = (if cont.length < room then .tuple #[.int .i64 0, .bool false] else .tuple #[val cont[0]!, .bool true]) ∧ m = m' ∧
      B = [R b room (if cont.length < room then lost else lost + 1) (putC room cont x)]) :=
  R.open fun s hs => by
    have hl := hs.len
    obtain ⟨g1, g2, g3, g4⟩ := hs
    by_cases hlt : s.l.length < room
    · refine Ct.conv (ring_put_lt b room s.p s.c s.fr lost s.l x hlt hr) fun v m' B _ ⟨h1, h2, p', c', h4⟩ => ⟨_, ⟨by rw [if_pos (by omega)]; exact h1, h2, rfl⟩, fun Rest => ?_⟩
      subst h4
      have e0 := g2 hlt
      rw [if_pos (by omega)]
      refine R.close ⟨p', c', s.fr, s.l ++ [x]⟩ ⟨by simp; omega, fun _ => e0, .inr e0, ?_⟩ Rest
      unfold putC
      rw [if_pos (by omega), g4, e0]; simp
    · refine Ct.conv (ring_put_ge b room s.p s.c s.fr lost s.l x hlt (by omega) (by omega) h3) fun v m' B _ ⟨h1, h2, h4⟩ => ⟨_, ⟨?_, h2, rfl⟩, fun Rest => ?_⟩
      · rw [if_neg (by omega), h1]
        have := rot_get (l := s.l) (fr := s.fr) (k := 0) (by omega) g3
        rw [← g4, Nat.add_zero, Nat.mod_eq_of_lt (by omega)] at this
        rw [this]
      · subst h4
        rw [if_neg (by omega)]
        have hm := Nat.mod_lt (s.fr + 1) (show 0 < s.l.length by omega)
        refine R.close ⟨s.p, s.c, (s.fr + 1) % s.l.length, s.l.set s.fr x⟩ ⟨by simp; omega, fun h => by simp at h; omega, .inl (by simpa using hm), ?_⟩ Rest
        unfold putC
        rw [if_neg (by omega), g4]
        exact (rot_put (by omega)).symm
theorem ring_new0 {m : Mem} (room : Int) (hr : -9223372036854775808 ≤ room ∧ room ≤ 9223372036854775807) :
    Ct Try.prog 17 #[.int .i64 room] m [] (fun v m' B => m = m' ∧ ((1 ≤ room ∧ room ≤ 65536 ∧ ∃ b, v = .tuple #[ptr b, .int .i64 0] ∧ B = [.blk b 67 [.int .i64 room, .slice none 0 0, .int .i64 0, .int .u64 0]]) ∨ (¬ (1 ≤ room ∧ room ≤ 65536) ∧ v = .tuple #[.pointer none, .int .i64 1] ∧ B = []))) := by
  refine Ct.enterV (by rfl) Try.func17 rfl Try.ntmps17 rfl (fun w0 Rest => ?_)
  (repeat' (first | (with_reducible first | apply At.app0 | apply At.app1 | apply At.app2 | apply At.app3 | apply At.app4 | apply At.app5 | apply At.app6 | apply At.app7) | (with_reducible first | apply At.seq | apply At.nil | apply At.then_n | apply At.then_e | apply At.then_r | apply At.inb_n | apply At.inb_r | apply At.inb_here | apply At.block | apply At.skip | apply At.exit | apply At.ret | apply At.scope | apply At.label | apply At.nog_n | apply At.nog_r | apply At.nog_e | apply AtQ.nil) | ((with_reducible first | apply At.inb_past | apply At.regionf); exact rfl) | ((with_reducible apply At.quiet); exact rfl; kernel_rfl; kernel_rfl) | ((first | (with_reducible first | apply At.val | apply AtQ.val)); (first | ((with_reducible first | apply pr_move | apply pr_assign | apply pr_lss | apply pr_gtr | apply pr_pick_t | apply pr_build | apply pr_field1) <;> exact rfl) | ((with_reducible first | apply pr_pick_f | apply pr_fieldN) <;> exact rfl)); exact rfl) | ((with_reducible apply At.box (d := 12)); exact rfl; exact rfl; exact rfl; intro b12) | ((with_reducible first | apply AtQ.guard_y | apply At.guard_y); exact rfl; exact rfl; exact rfl) | ((with_reducible first | apply AtQ.guard_nt | apply At.guard_nt); exact rfl; exact rfl; exact rfl) | ((with_reducible first | apply AtQ.guard_nf | apply At.guard_nf); exact rfl; exact rfl; exact rfl) | ((with_reducible first | apply AtQ.guard_nu | apply At.guard_nu); exact rfl; exact rfl; exact rfl) | ((with_reducible first | apply At.cond_t | apply At.cond_f); exact rfl) | ((with_reducible apply At.cond_f); exact rfl) | ((with_reducible apply At.cond); exact rfl; all_goals (intro hc; (try simp only [decide_eq_true_eq, decide_eq_false_iff_not, Bool.not_eq_true', Bool.not_eq_false', Bool.and_eq_true, Bool.or_eq_true, Bool.and_eq_false_iff, Bool.or_eq_false_iff, Bool.not_eq_eq_eq_not, Bool.not_true, Bool.not_false, beq_iff_eq, beq_eq_false_iff_ne, ne_eq, not_true_eq_false, not_false_eq_true, Bool.false_eq_true, Bool.true_eq_false, Option.isNone_none, Option.isNone_some, reduceCtorEq, andL_cons, andL_nil, Bool.and_true, and_true] at hc); (try (exfalso; first | contradiction | omega | exact absurd rfl hc | exact absurd (by decide) hc)))) | ((with_reducible first | apply At.guard_s | apply AtQ.guard_s); exact rfl; exact rfl; all_goals (intro hc; (try simp only [decide_eq_true_eq, decide_eq_false_iff_not, Bool.not_eq_true', Bool.not_eq_false', Bool.and_eq_true, Bool.or_eq_true, Bool.and_eq_false_iff, Bool.or_eq_false_iff, Bool.not_eq_eq_eq_not, Bool.not_true, Bool.not_false, beq_iff_eq, beq_eq_false_iff_ne, ne_eq, not_true_eq_false, not_false_eq_true, Bool.false_eq_true, Bool.true_eq_false, Option.isNone_none, Option.isNone_some, reduceCtorEq, andL_cons, andL_nil, Bool.and_true, and_true] at hc); (try (exfalso; first | contradiction | omega | exact absurd rfl hc | exact absurd (by decide) hc))))))
  all_goals first
    | ((with_reducible apply At.retB2 (B := [])); exact rfl; exact rfl; exact rfl; (first | exact Mem.le_refl _ | assumption | exact Mem.le_trans (by assumption) (by assumption) | (focus ((iterate 16 (first | done | assumption | refine Mem.le_trans ?_ (by assumption))); done))); (repeat' (first | exact Keep.nil | ((with_reducible apply Keep.cons); exact (by repeat constructor)) | (with_reducible apply Keep.skip))); exact ⟨rfl, .inr ⟨by omega, rfl, rfl⟩⟩)
    | ((with_reducible apply At.retB2 (B := [.blk _ _ _])); exact rfl; exact rfl; exact rfl; (first | exact Mem.le_refl _ | assumption | exact Mem.le_trans (by assumption) (by assumption) | (focus ((iterate 16 (first | done | assumption | refine Mem.le_trans ?_ (by assumption))); done))); (repeat' (first | exact Keep.nil | ((with_reducible apply Keep.cons); exact (by repeat constructor)) | (with_reducible apply Keep.skip))); exact ⟨rfl, .inl ⟨by omega, by omega, _, rfl, rfl⟩⟩)
theorem ringNew {m : Mem} (room : Int) (hr : -9223372036854775808 ≤ room ∧ room ≤ 9223372036854775807) :
    Ct Try.prog 17 #[.int .i64 room] m [] (fun v m' B => m = m' ∧ ((1 ≤ room ∧ room ≤ 65536 ∧ ∃ b, v = .tuple #[ptr b, .int .i64 0] ∧ B = [R b room.toNat 0 []]) ∨ (¬ (1 ≤ room ∧ room ≤ 65536) ∧ v = .tuple #[.pointer none, .int .i64 1] ∧ B = []))) :=
  Ct.conv (ring_new0 room hr) fun v m' B _ ⟨h1, h⟩ => by
    rcases h with ⟨h2, h3, b, h4, h5⟩ | ⟨h2, h3, h4⟩
    · refine ⟨_, ⟨h1, .inl ⟨h2, h3, b, h4, rfl⟩⟩, fun Rest => ?_⟩
      subst h5
      have e : ((room.toNat : Nat) : Int) = room := Int.toNat_of_nonneg (by omega)
      have := R.close (b := b) (room := room.toNat) (lost := 0) (cont := []) ⟨none, 0, 0, []⟩ ⟨by simp, fun _ => rfl, .inr rfl, by simp⟩ Rest
      simp only [rr, rc, e] at this
      exact (Ent.cons _ (own_nil_ent fi 1 3 Rest)).trans this
    · exact ⟨_, ⟨h1, .inr ⟨h2, h3, h4⟩⟩, fun Rest => by subst h4; exact Ent.refl _⟩
end Ring
end Go.Proofs.Ytjfgjkecmdgpgaa
