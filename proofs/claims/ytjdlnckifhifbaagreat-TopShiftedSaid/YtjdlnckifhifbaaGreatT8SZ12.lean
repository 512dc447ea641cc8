/- Part 12 of what the law's proof needs: rules of the walk, contracts of functions, plain laws. No condition. -/
import Derived.Test.YtjdlnckifhifbaaGreatT8SZ11
/- The contracts of the package raw: one more is put. -/
set_option linter.unusedSimpArgs false
set_option linter.unusedVariables false
set_option linter.unusedSectionVars false
set_option maxRecDepth 20000
set_option maxHeartbeats 4000000
namespace Go.Proofs.YtjdlnckifhifbaaGreat
open Go Go.J
attribute [local irreducible] At AtQ AtM AtM1 PR Ct Pu Rd Res.blk Res.own Res.ex RVs RV RingE.R
namespace Raw
open Ev Mrg
open RingE (ptr R)
theorem ringLt {m : Mem} (b room : Nat) (cont l : List Ev) (i : Nat) (hc : cont = l.take i) (hi : i < l.length) (hl : l.length ≤ room) (hr : room ≤ 65536) :
    Ct Tryz.prog 90 #[ptr b, (l[i]!).v] m [R b room 0 cont] (fun v m' B => v = .tuple #[Ev.z.v, .bool false] ∧ m = m' ∧ B = [R b room 0 (l.take (i + 1))]) := by
  subst hc
  have hlen : (l.take i).length < room := by rw [List.length_take]; omega
  refine (RingE.ringPut b room 0 (l.take i) (l[i]!) (by omega) hr ⟨by omega, by omega⟩).mono fun v m' B _ ⟨h1, h2, h3⟩ => ⟨?_, h2, ?_⟩
  · rw [h1, if_pos hlen]
  · rw [h3, if_pos hlen, RingE.putC, if_pos hlen, List.take_add_one, getElem!_pos l i hi, List.getElem?_eq_getElem hi]; rfl
theorem open_ {m : Mem} (p : Option Addr) (c : Nat) (l : List Ev) (room : Nat) (h1 : 1 ≤ room) (h2 : room ≤ 4096) (hl : l.length ≤ room) (sl0 : Sl m cells 4 p c l) :
    Ct Tryz.prog 89 #[.slice p l.length c, .int .i64 (room : Int)] m [] (fun v m' B => m = m' ∧ ∃ b, v = .tuple #[ptr b, .int .i64 0] ∧ B = [R b room 0 l]) := by
  have hn : Ct Tryz.prog 114 #[.int .i64 (room : Int)] m [] (fun v m' B => m = m' ∧ ∃ b, v = .tuple #[ptr b, .int .i64 0] ∧ B = [R b room 0 []]) :=
    (RingE.ringNew (m := m) (room : Int) (by omega)).mono fun v m' B _ ⟨g1, g2⟩ => by
      rcases g2 with ⟨_, _, b, g3, g4⟩ | ⟨g3, _⟩
      · exact ⟨g1, b, g3, by rw [g4]; rfl⟩
      · omega
  refine Ct.enterV (by rfl) Tryz.func89 rfl Tryz.ntmps89 rfl (fun w0 Rest => ?_)
  (repeat' (first | refine zss ?_ | refine zsM ?_ | ((with_reducible first | apply At.c1 | apply At.c0); exact rfl; exact rfl; exact hn; exact ztk; kernel_rfl; rintro v' m' B' hm' ⟨rfl, b, rfl, rfl⟩; (try replace sl0 := sl0.mono hm'); (try (have hq0 : hm' = Mem.le_refl _ := rfl; clear hq0 hm'))) | ((with_reducible apply At.alloc (d := 9)); exact rfl; exact rfl; intro b9) | (refine zsp ?_ ?_ <;> (intro hc; (try simp only [zhcs, reduceCtorEq] at hc); (try (exfalso; first | contradiction | omega | exact absurd rfl hc | exact absurd (by decide) hc))))))
  (refine At.loopk (σ := Nat) [6, 18, 19] (fun s F0 => (20, .int .i64 (s : Int)) :: F0) (fun s => m) (fun s => R b room 0 (l.take s) :: Rest) (fun s => s ≤ l.length) (fun s => l.length - s) 0 (by rfl) ?_ zsubs zml zente ?_)
  · exact Nat.zero_le _
  rintro s hs
  by_cases h : s < l.length
  · (repeat' (first | refine zss ?_ | refine zsM ?_ | ((with_reducible first | apply At.c1 | apply At.c0); exact rfl; exact rfl; exact ringLt b room _ l s rfl h hl (by omega); exact ztk; kernel_rfl; rintro v' m' B' hm' ⟨rfl, rfl, rfl⟩; (try replace sl0 := sl0.mono hm'); (try (have hq0 : hm' = Mem.le_refl _ := rfl; clear hq0 hm'))) | ((with_reducible apply At.alloc (d := 9)); exact rfl; exact rfl; intro b9) | (refine zsp ?_ ?_ <;> (intro hc; (try simp only [zhcs, reduceCtorEq] at hc); (try (exfalso; first | omega | contradiction | omega | exact absurd rfl hc | exact absurd (by decide) hc))))))
    all_goals ((with_reducible refine At.reachk ((s + 1)) ?_ ?_ ?_ ?_); exact zsubs; exact zml; exact zente; exact ⟨h, by omega⟩)
  · rw [show l.take s = l from List.take_of_length_le (by omega)]
    (repeat' (first | refine zss ?_ | refine zsM ?_ | ((with_reducible apply At.alloc (d := 9)); exact rfl; exact rfl; intro b9) | (refine zsp ?_ ?_ <;> (intro hc; (try simp only [zhcs, reduceCtorEq] at hc); (try (exfalso; first | omega | contradiction | omega | exact absurd rfl hc | exact absurd (by decide) hc))))))
    all_goals ((with_reducible apply At.retB2 (B := [R b room 0 l])); (iterate 3 exact rfl); exact zml; exact zkp; exact ⟨rfl, _, rfl, rfl⟩)
/-- what one more makes -/
def putE (lost mark : Int) (l : List Ev) (room : Int) (e : Ev) : Int :=
  if rk lost mark l room ∧ e.ok then (if l.length ≠ 0 ∧ ¬ (lastV l).T < e.T then 9 else if (l.length : Int) = room ∧ lost = 70368744177664 then 1 else 0) else 2
def putO (lost mark : Int) (l : List Ev) (room : Int) (e : Ev) : Int := if putE lost mark l room e = 0 then (if (l.length : Int) < room then lost else lost + 1) else 0
def putM (lost mark : Int) (l : List Ev) (room : Int) (e : Ev) : Int := if putE lost mark l room e = 0 then (if (l.length : Int) < room then mark else (l[0]!).T) else 0
def putL (lost mark : Int) (l : List Ev) (room : Int) (e : Ev) : List Ev := if putE lost mark l room e = 0 then (if (l.length : Int) < room then l ++ [e] else l.drop 1 ++ [e]) else []
/-- raw events, that stay, and an error -/
def PostR (lost mark : Int) (l : List Ev) (w : Int) : Value → Mem → List Res → Prop := fun v m' B => B = [] ∧ ∃ p c, v = .tuple #[rv lost mark p l.length c, .int .i64 w] ∧ Sl m' cells 4 p c l
def PostL (l : List Ev) (w : Int) : Value → Mem → List Res → Prop := fun v m' B => B = [] ∧ ∃ p c, v = .tuple #[.slice p l.length c, .int .i64 w] ∧ Sl m' cells 4 p c l
theorem postr {g : FuncId} {args : Array Value} {m : Mem} {A : List Res} {o o' k k' : Int} {l l' : List Ev} {w w' : Int} (h : Ct Tryz.prog g args m A (PostR o k l w)) (e1 : o = o') (e2 : k = k') (e3 : l = l') (e4 : w = w') : Ct Tryz.prog g args m A (PostR o' k' l' w') := by
  subst e1 e2 e3 e4; exact h
theorem postl {g : FuncId} {args : Array Value} {m : Mem} {A : List Res} {l l' : List Ev} {w w' : Int} (h : Ct Tryz.prog g args m A (PostL l w)) (e3 : l = l') (e4 : w = w') : Ct Tryz.prog g args m A (PostL l' w') := by
  subst e3 e4; exact h
theorem puterr {g : FuncId} {args : Array Value} {m : Mem} {A : List Res} {lost mark : Int} {l : List Ev} {room : Int} {e : Ev} {w : Int} (hE : putE lost mark l room e = w) (hw : w ≠ 0) (h : Ct Tryz.prog g args m A (PostR 0 0 [] w)) :
    Ct Tryz.prog g args m A (PostR (putO lost mark l room e) (putM lost mark l room e) (putL lost mark l room e) (putE lost mark l room e)) :=
  postr h (by unfold putO; rw [if_neg (by rw [hE]; exact hw)]) (by unfold putM; rw [if_neg (by rw [hE]; exact hw)]) (by unfold putL; rw [if_neg (by rw [hE]; exact hw)]) hE.symm
theorem lastV_ok {l : List Ev} (h : aok l) (hn : l.length ≠ 0) : (lastV l).ok := by
  unfold lastV; rw [if_neg hn]; exact h _ (by omega)
theorem put {m : Mem} (lost mark : Int) (p : Option Addr) (c : Nat) (l : List Ev) (room : Int) (e : Ev) (hl : l.length ≤ 1000000) (sl0 : Sl m cells 4 p c l) :
    Ct Tryz.prog 63 #[rv lost mark p l.length c, .int .i64 room, e.v] m [] (PostR (putO lost mark l room e) (putM lost mark l room e) (putL lost mark l room e) (putE lost mark l room e)) := by
  have hk : ∀ m', m.le m' → Rd Tryz.prog 47 #[rv lost mark p l.length c, .int .i64 room] m' [] (.int .i64 (chkR lost mark l room)) := fun m' hm => check lost mark p c l room hl (sl0.mono hm)
  have hj := Ev.check e
  have hf := Ev.follow (lastV l) e
  have hla : ∀ m', m.le m' → Rd Tryz.prog 73 #[rv lost mark p l.length c] m' [] (.tuple #[(lastV l).v, .int .i64 (lastE l)]) := fun m' hm => last lost mark p c l hl (sl0.mono hm)
  by_cases h1 : rk lost mark l room
  · rw [show chkR lost mark l room = 0 from if_pos h1] at hk
    by_cases h2 : e.ok
    · rw [show e.chk = 0 from if_pos h2] at hj
      by_cases h3 : l.length ≠ 0 ∧ ¬ (lastV l).T < e.T
      · refine puterr (w := 9) (by unfold putE; rw [if_pos ⟨h1, h2⟩, if_pos h3]) (by decide) ?_
        rw [show lastE l = 0 from if_neg h3.1] at hla
        rw [show fol (lastV l) e = false by unfold fol; rw [decide_eq_false h3.2, Bool.and_false]] at hf
        refine Ct.enterV (by rfl) Tryz.func63 rfl Tryz.ntmps63 rfl (fun w0 Rest => ?_)
        (repeat' (first | refine zss ?_ | refine zsM ?_ | ((with_reducible first | apply AtM1.cr | apply AtQ.cr | apply At.cr); exact rfl; exact rfl; exact fun _ hmm => hk _ hmm; exact ztk; kernel_rfl) | ((with_reducible first | apply AtM1.callp | apply AtQ.callp | apply At.callp); kernel_rfl; exact rfl; exact rfl; exact hj) | ((with_reducible first | apply AtM1.cr | apply AtQ.cr | apply At.cr); exact rfl; exact rfl; exact fun _ hmm => hla _ hmm; exact ztk; kernel_rfl) | ((with_reducible first | apply AtM1.callp | apply AtQ.callp | apply At.callp); kernel_rfl; exact rfl; exact rfl; exact hf) | ((with_reducible apply At.box (d := 3)); exact rfl; exact rfl; exact rfl; intro b3) | ((with_reducible apply At.box (d := 5)); exact rfl; exact rfl; exact rfl; intro b5) | ((with_reducible apply At.alloc (d := 6)); exact rfl; exact rfl; intro b6) | ((with_reducible apply At.alloc (d := 8)); exact rfl; exact rfl; intro b8) | ((with_reducible apply At.alloc (d := 11)); exact rfl; exact rfl; intro b11) | (refine zsp ?_ ?_ <;> (intro hc; (try simp only [zhcs, reduceCtorEq] at hc); (try (exfalso; first | omega | contradiction | omega | exact absurd rfl hc | exact absurd (by decide) hc))))))
        all_goals ((with_reducible apply At.retV (B := [])); exact rfl; (repeat' (first | exact RVs.nil | (with_reducible apply RVs.cons) | exact rv_tmp (by rfl) | exact rv_cellN (by rfl) (by repeat constructor) (by rfl) (by rfl) (by rfl) | exact rv_cell1 (by rfl) (by repeat constructor) (by rfl) (by rfl))); exact zml; exact zkp; exact ⟨rfl, none, 0, rfl, Sl.empty _ inferInstance⟩)
      · have hF : ∀ (q : Bool), lastE l = 0 → fol (lastV l) e = true := fun q hq => by
          have hn : l.length ≠ 0 := fun h => by unfold lastE at hq; rw [if_pos h] at hq; cases hq
          unfold fol
          rw [decide_eq_true (show two (lastV l) e from ⟨lastV_ok h1.2.1.1 hn, h2⟩), decide_eq_true (show (lastV l).T < e.T by
            by_cases h4 : (lastV l).T < e.T
            · exact h4
            · exact absurd ⟨hn, h4⟩ h3)]; rfl
        by_cases h4 : (l.length : Int) = room ∧ lost = 70368744177664
        · refine puterr (w := 1) (by unfold putE; rw [if_pos ⟨h1, h2⟩, if_neg h3, if_pos h4]) (by decide) ?_
          by_cases h0 : lastE l = 0
          · rw [hF true h0] at hf
            rw [h0] at hla
            refine Ct.enterV (by rfl) Tryz.func63 rfl Tryz.ntmps63 rfl (fun w0 Rest => ?_)
            (repeat' (first | refine zss ?_ | refine zsM ?_ | ((with_reducible first | apply AtM1.cr | apply AtQ.cr | apply At.cr); exact rfl; exact rfl; exact fun _ hmm => hk _ hmm; exact ztk; kernel_rfl) | ((with_reducible first | apply AtM1.callp | apply AtQ.callp | apply At.callp); kernel_rfl; exact rfl; exact rfl; exact hj) | ((with_reducible first | apply AtM1.cr | apply AtQ.cr | apply At.cr); exact rfl; exact rfl; exact fun _ hmm => hla _ hmm; exact ztk; kernel_rfl) | ((with_reducible first | apply AtM1.callp | apply AtQ.callp | apply At.callp); kernel_rfl; exact rfl; exact rfl; exact hf) | ((with_reducible apply At.box (d := 3)); exact rfl; exact rfl; exact rfl; intro b3) | ((with_reducible apply At.box (d := 5)); exact rfl; exact rfl; exact rfl; intro b5) | ((with_reducible apply At.alloc (d := 6)); exact rfl; exact rfl; intro b6) | ((with_reducible apply At.alloc (d := 8)); exact rfl; exact rfl; intro b8) | ((with_reducible apply At.alloc (d := 11)); exact rfl; exact rfl; intro b11) | (refine zsp ?_ ?_ <;> (intro hc; (try simp only [zhcs, reduceCtorEq] at hc); (try (exfalso; first | omega | contradiction | omega | exact absurd rfl hc | exact absurd (by decide) hc))))))
            all_goals ((with_reducible apply At.retV (B := [])); exact rfl; (repeat' (first | exact RVs.nil | (with_reducible apply RVs.cons) | exact rv_tmp (by rfl) | exact rv_cellN (by rfl) (by repeat constructor) (by rfl) (by rfl) (by rfl) | exact rv_cell1 (by rfl) (by repeat constructor) (by rfl) (by rfl))); exact zml; exact zkp; exact ⟨rfl, none, 0, rfl, Sl.empty _ inferInstance⟩)
          · rw [show lastE l = 3 by unfold lastE at h0 ⊢; split at h0 <;> simp_all] at hla
            refine Ct.enterV (by rfl) Tryz.func63 rfl Tryz.ntmps63 rfl (fun w0 Rest => ?_)
            (repeat' (first | refine zss ?_ | refine zsM ?_ | ((with_reducible first | apply AtM1.cr | apply AtQ.cr | apply At.cr); exact rfl; exact rfl; exact fun _ hmm => hk _ hmm; exact ztk; kernel_rfl) | ((with_reducible first | apply AtM1.callp | apply AtQ.callp | apply At.callp); kernel_rfl; exact rfl; exact rfl; exact hj) | ((with_reducible first | apply AtM1.cr | apply AtQ.cr | apply At.cr); exact rfl; exact rfl; exact fun _ hmm => hla _ hmm; exact ztk; kernel_rfl) | ((with_reducible first | apply AtM1.callp | apply AtQ.callp | apply At.callp); kernel_rfl; exact rfl; exact rfl; exact hf) | ((with_reducible apply At.box (d := 3)); exact rfl; exact rfl; exact rfl; intro b3) | ((with_reducible apply At.box (d := 5)); exact rfl; exact rfl; exact rfl; intro b5) | ((with_reducible apply At.alloc (d := 6)); exact rfl; exact rfl; intro b6) | ((with_reducible apply At.alloc (d := 8)); exact rfl; exact rfl; intro b8) | ((with_reducible apply At.alloc (d := 11)); exact rfl; exact rfl; intro b11) | (refine zsp ?_ ?_ <;> (intro hc; (try simp only [zhcs, reduceCtorEq] at hc); (try (exfalso; first | omega | contradiction | omega | exact absurd rfl hc | exact absurd (by decide) hc))))))
            all_goals ((with_reducible apply At.retV (B := [])); exact rfl; (repeat' (first | exact RVs.nil | (with_reducible apply RVs.cons) | exact rv_tmp (by rfl) | exact rv_cellN (by rfl) (by repeat constructor) (by rfl) (by rfl) (by rfl) | exact rv_cell1 (by rfl) (by repeat constructor) (by rfl) (by rfl))); exact zml; exact zkp; exact ⟨rfl, none, 0, rfl, Sl.empty _ inferInstance⟩)
        · have hE : putE lost mark l room e = 0 := by unfold putE; rw [if_pos ⟨h1, h2⟩, if_neg h3, if_neg h4]
          obtain ⟨hb, hr, hm⟩ := h1
          obtain ⟨b1, b2, b3, b4, b5⟩ := hb
          obtain ⟨n, rfl⟩ : ∃ n : Nat, room = n := ⟨room.toNat, by omega⟩
          have ho := open_ (m := m) p c l n (by omega) (by omega) (by omega) sl0
          have hA := fun (m : Mem) b lost cont => RingE.ringAll (m := m) b n lost cont (by omega)
          by_cases h5 : (l.length : Int) < n
          · refine postr (o := lost) (k := mark) (l := l ++ [e]) (w := 0) ?_ (by unfold putO; rw [if_pos hE, if_pos h5]) (by unfold putM; rw [if_pos hE, if_pos h5]) (by unfold putL; rw [if_pos hE, if_pos h5]) hE.symm
            have hP : ∀ b, Ct Tryz.prog 90 #[ptr b, e.v] m [R b n 0 l] (fun v m' B => v = .tuple #[Ev.z.v, .bool false] ∧ m = m' ∧ B = [R b n 0 (l ++ [e])]) := fun b =>
              (RingE.ringPut b n 0 l e (by omega) (by omega) ⟨by omega, by omega⟩).mono fun v m' B _ ⟨g1, g2, g3⟩ => ⟨by rw [g1, if_pos (by omega)], g2, by rw [g3, if_pos (by omega), RingE.putC, if_pos (by omega)]⟩
            by_cases h0 : lastE l = 0
            · rw [hF true h0] at hf
              rw [h0] at hla
              refine Ct.enterV (by rfl) Tryz.func63 rfl Tryz.ntmps63 rfl (fun w0 Rest => ?_)
              (repeat' (first | refine zss ?_ | refine zsM ?_ | ((with_reducible first | apply AtM1.cr | apply AtQ.cr | apply At.cr); exact rfl; exact rfl; exact fun _ hmm => hk _ hmm; exact ztk; kernel_rfl) | ((with_reducible first | apply AtM1.callp | apply AtQ.callp | apply At.callp); kernel_rfl; exact rfl; exact rfl; exact hj) | ((with_reducible first | apply AtM1.cr | apply AtQ.cr | apply At.cr); exact rfl; exact rfl; exact fun _ hmm => hla _ hmm; exact ztk; kernel_rfl) | ((with_reducible first | apply AtM1.callp | apply AtQ.callp | apply At.callp); kernel_rfl; exact rfl; exact rfl; exact hf) | ((with_reducible first | apply At.c1 | apply At.c0); exact rfl; exact rfl; exact ho; exact ztk; kernel_rfl; rintro v' m' B' hm' ⟨rfl, b, rfl, rfl⟩; (try replace sl0 := sl0.mono hm'); (try replace sl1 := sl1.mono hm'); (try (have hq0 : hm' = Mem.le_refl _ := rfl; clear hq0 hm'))) | ((with_reducible first | apply At.c1 | apply At.c0); exact rfl; exact rfl; exact hP _; exact ztk; kernel_rfl; rintro v' m' B' hm' ⟨rfl, rfl, rfl⟩; (try replace sl0 := sl0.mono hm'); (try replace sl1 := sl1.mono hm'); (try (have hq0 : hm' = Mem.le_refl _ := rfl; clear hq0 hm'))) | ((with_reducible first | apply At.c1 | apply At.c0); exact rfl; exact rfl; exact hA _ b 0 (l ++ [e]); exact ztk; kernel_rfl; rintro v' m' B' hm' ⟨rfl, p2, c2, rfl, rfl⟩; (try replace sl0 := sl0.mono hm'); (try replace sl1 := sl1.mono hm'); (try (have hq0 : hm' = Mem.le_refl _ := rfl; clear hq0 hm'))) | ((with_reducible apply At.box (d := 3)); exact rfl; exact rfl; exact rfl; intro b3) | ((with_reducible apply At.box (d := 5)); exact rfl; exact rfl; exact rfl; intro b5) | ((with_reducible apply At.alloc (d := 6)); exact rfl; exact rfl; intro b6) | ((with_reducible apply At.alloc (d := 8)); exact rfl; exact rfl; intro b8) | ((with_reducible apply At.alloc (d := 11)); exact rfl; exact rfl; intro b11) | (refine zsp ?_ ?_ <;> (intro hc; (try simp only [zhcs, reduceCtorEq] at hc); (try (exfalso; first | omega | contradiction | omega | exact absurd rfl hc | exact absurd (by decide) hc))))))
              all_goals (refine At.own_freeze inferInstance (by repeat constructor) fun m' hm' sl1 => ?_; (try replace sl0 := sl0.mono hm'))
              all_goals ((with_reducible apply At.retV (B := [])); exact rfl; (repeat' (first | exact RVs.nil | (with_reducible apply RVs.cons) | exact rv_tmp (by rfl) | exact rv_cellN (by rfl) (by repeat constructor) (by rfl) (by rfl) (by rfl) | exact rv_cell1 (by rfl) (by repeat constructor) (by rfl) (by rfl))); exact zml; exact zkp; exact ⟨rfl, _, _, rfl, sl1⟩)
            · rw [show lastE l = 3 by unfold lastE at h0 ⊢; split at h0 <;> simp_all] at hla
              refine Ct.enterV (by rfl) Tryz.func63 rfl Tryz.ntmps63 rfl (fun w0 Rest => ?_)
              (repeat' (first | refine zss ?_ | refine zsM ?_ | ((with_reducible first | apply AtM1.cr | apply AtQ.cr | apply At.cr); exact rfl; exact rfl; exact fun _ hmm => hk _ hmm; exact ztk; kernel_rfl) | ((with_reducible first | apply AtM1.callp | apply AtQ.callp | apply At.callp); kernel_rfl; exact rfl; exact rfl; exact hj) | ((with_reducible first | apply AtM1.cr | apply AtQ.cr | apply At.cr); exact rfl; exact rfl; exact fun _ hmm => hla _ hmm; exact ztk; kernel_rfl) | ((with_reducible first | apply AtM1.callp | apply AtQ.callp | apply At.callp); kernel_rfl; exact rfl; exact rfl; exact hf) | ((with_reducible first | apply At.c1 | apply At.c0); exact rfl; exact rfl; exact ho; exact ztk; kernel_rfl; rintro v' m' B' hm' ⟨rfl, b, rfl, rfl⟩; (try replace sl0 := sl0.mono hm'); (try replace sl1 := sl1.mono hm'); (try (have hq0 : hm' = Mem.le_refl _ := rfl; clear hq0 hm'))) | ((with_reducible first | apply At.c1 | apply At.c0); exact rfl; exact rfl; exact hP _; exact ztk; kernel_rfl; rintro v' m' B' hm' ⟨rfl, rfl, rfl⟩; (try replace sl0 := sl0.mono hm'); (try replace sl1 := sl1.mono hm'); (try (have hq0 : hm' = Mem.le_refl _ := rfl; clear hq0 hm'))) | ((with_reducible first | apply At.c1 | apply At.c0); exact rfl; exact rfl; exact hA _ b 0 (l ++ [e]); exact ztk; kernel_rfl; rintro v' m' B' hm' ⟨rfl, p2, c2, rfl, rfl⟩; (try replace sl0 := sl0.mono hm'); (try replace sl1 := sl1.mono hm'); (try (have hq0 : hm' = Mem.le_refl _ := rfl; clear hq0 hm'))) | ((with_reducible apply At.box (d := 3)); exact rfl; exact rfl; exact rfl; intro b3) | ((with_reducible apply At.box (d := 5)); exact rfl; exact rfl; exact rfl; intro b5) | ((with_reducible apply At.alloc (d := 6)); exact rfl; exact rfl; intro b6) | ((with_reducible apply At.alloc (d := 8)); exact rfl; exact rfl; intro b8) | ((with_reducible apply At.alloc (d := 11)); exact rfl; exact rfl; intro b11) | (refine zsp ?_ ?_ <;> (intro hc; (try simp only [zhcs, reduceCtorEq] at hc); (try (exfalso; first | omega | contradiction | omega | exact absurd rfl hc | exact absurd (by decide) hc))))))
              all_goals (refine At.own_freeze inferInstance (by repeat constructor) fun m' hm' sl1 => ?_; (try replace sl0 := sl0.mono hm'))
              all_goals ((with_reducible apply At.retV (B := [])); exact rfl; (repeat' (first | exact RVs.nil | (with_reducible apply RVs.cons) | exact rv_tmp (by rfl) | exact rv_cellN (by rfl) (by repeat constructor) (by rfl) (by rfl) (by rfl) | exact rv_cell1 (by rfl) (by repeat constructor) (by rfl) (by rfl))); exact zml; exact zkp; exact ⟨rfl, _, _, rfl, sl1⟩)
          · refine postr (o := lost + 1) (k := (l[0]!).T) (l := l.drop 1 ++ [e]) (w := 0) ?_ (by unfold putO; rw [if_pos hE, if_neg h5]) (by unfold putM; rw [if_pos hE, if_neg h5]) (by unfold putL; rw [if_pos hE, if_neg h5]) hE.symm
            have hP : ∀ b, Ct Tryz.prog 90 #[ptr b, e.v] m [R b n 0 l] (fun v m' B => v = .tuple #[(l[0]!).v, .bool true] ∧ m = m' ∧ B = [R b n 1 (l.drop 1 ++ [e])]) := fun b =>
              (RingE.ringPut b n 0 l e (by omega) (by omega) ⟨by omega, by omega⟩).mono fun v m' B _ ⟨g1, g2, g3⟩ => ⟨by rw [g1, if_neg (by omega)], g2, by rw [g3, if_neg (by omega), RingE.putC, if_neg (by omega)]; rfl⟩
            have h0 : lastE l = 0 := if_neg (by omega)
            rw [hF true h0] at hf
            rw [h0] at hla
            refine Ct.enterV (by rfl) Tryz.func63 rfl Tryz.ntmps63 rfl (fun w0 Rest => ?_)
            (repeat' (first | refine zss ?_ | refine zsM ?_ | ((with_reducible first | apply AtM1.cr | apply AtQ.cr | apply At.cr); exact rfl; exact rfl; exact fun _ hmm => hk _ hmm; exact ztk; kernel_rfl) | ((with_reducible first | apply AtM1.callp | apply AtQ.callp | apply At.callp); kernel_rfl; exact rfl; exact rfl; exact hj) | ((with_reducible first | apply AtM1.cr | apply AtQ.cr | apply At.cr); exact rfl; exact rfl; exact fun _ hmm => hla _ hmm; exact ztk; kernel_rfl) | ((with_reducible first | apply AtM1.callp | apply AtQ.callp | apply At.callp); kernel_rfl; exact rfl; exact rfl; exact hf) | ((with_reducible first | apply At.c1 | apply At.c0); exact rfl; exact rfl; exact ho; exact ztk; kernel_rfl; rintro v' m' B' hm' ⟨rfl, b, rfl, rfl⟩; (try replace sl0 := sl0.mono hm'); (try replace sl1 := sl1.mono hm'); (try (have hq0 : hm' = Mem.le_refl _ := rfl; clear hq0 hm'))) | ((with_reducible first | apply At.c1 | apply At.c0); exact rfl; exact rfl; exact hP _; exact ztk; kernel_rfl; rintro v' m' B' hm' ⟨rfl, rfl, rfl⟩; (try replace sl0 := sl0.mono hm'); (try replace sl1 := sl1.mono hm'); (try (have hq0 : hm' = Mem.le_refl _ := rfl; clear hq0 hm'))) | ((with_reducible first | apply At.c1 | apply At.c0); exact rfl; exact rfl; exact hA _ b 1 (l.drop 1 ++ [e]); exact ztk; kernel_rfl; rintro v' m' B' hm' ⟨rfl, p2, c2, rfl, rfl⟩; (try replace sl0 := sl0.mono hm'); (try replace sl1 := sl1.mono hm'); (try (have hq0 : hm' = Mem.le_refl _ := rfl; clear hq0 hm'))) | ((with_reducible apply At.box (d := 3)); exact rfl; exact rfl; exact rfl; intro b3) | ((with_reducible apply At.box (d := 5)); exact rfl; exact rfl; exact rfl; intro b5) | ((with_reducible apply At.alloc (d := 6)); exact rfl; exact rfl; intro b6) | ((with_reducible apply At.alloc (d := 8)); exact rfl; exact rfl; intro b8) | ((with_reducible apply At.alloc (d := 11)); exact rfl; exact rfl; intro b11) | (refine zsp ?_ ?_ <;> (intro hc; (try simp only [zhcs, reduceCtorEq] at hc); (try (exfalso; first | omega | contradiction | omega | exact absurd rfl hc | exact absurd (by decide) hc))))))
            all_goals (refine At.own_freeze inferInstance (by repeat constructor) fun m' hm' sl1 => ?_; (try replace sl0 := sl0.mono hm'))
            all_goals ((with_reducible apply At.retV (B := [])); exact rfl; (repeat' (first | exact RVs.nil | (with_reducible apply RVs.cons) | exact rv_tmp (by rfl) | exact rv_cellN (by rfl) (by repeat constructor) (by rfl) (by rfl) (by rfl) | exact rv_cell1 (by rfl) (by repeat constructor) (by rfl) (by rfl))); exact zml; exact zkp; exact ⟨rfl, _, _, rfl, sl1⟩)
    · rw [show e.chk = 2 from if_neg h2] at hj
      refine puterr (w := 2) (by unfold putE; rw [if_neg fun h => h2 h.2]) (by decide) ?_
      refine Ct.enterV (by rfl) Tryz.func63 rfl Tryz.ntmps63 rfl (fun w0 Rest => ?_)
      (repeat' (first | refine zss ?_ | refine zsM ?_ | ((with_reducible first | apply AtM1.cr | apply AtQ.cr | apply At.cr); exact rfl; exact rfl; exact fun _ hmm => hk _ hmm; exact ztk; kernel_rfl) | ((with_reducible first | apply AtM1.callp | apply AtQ.callp | apply At.callp); kernel_rfl; exact rfl; exact rfl; exact hj) | ((with_reducible apply At.box (d := 3)); exact rfl; exact rfl; exact rfl; intro b3) | ((with_reducible apply At.box (d := 5)); exact rfl; exact rfl; exact rfl; intro b5) | ((with_reducible apply At.alloc (d := 6)); exact rfl; exact rfl; intro b6) | ((with_reducible apply At.alloc (d := 8)); exact rfl; exact rfl; intro b8) | ((with_reducible apply At.alloc (d := 11)); exact rfl; exact rfl; intro b11) | (refine zsp ?_ ?_ <;> (intro hc; (try simp only [zhcs, reduceCtorEq] at hc); (try (exfalso; first | omega | contradiction | omega | exact absurd rfl hc | exact absurd (by decide) hc))))))
      all_goals ((with_reducible apply At.retV (B := [])); exact rfl; (repeat' (first | exact RVs.nil | (with_reducible apply RVs.cons) | exact rv_tmp (by rfl) | exact rv_cellN (by rfl) (by repeat constructor) (by rfl) (by rfl) (by rfl) | exact rv_cell1 (by rfl) (by repeat constructor) (by rfl) (by rfl))); exact zml; exact zkp; exact ⟨rfl, none, 0, rfl, Sl.empty _ inferInstance⟩)
  · rw [show chkR lost mark l room = 2 from if_neg h1] at hk
    refine puterr (w := 2) (by unfold putE; rw [if_neg fun h => h1 h.1]) (by decide) ?_
    refine Ct.enterV (by rfl) Tryz.func63 rfl Tryz.ntmps63 rfl (fun w0 Rest => ?_)
    (repeat' (first | refine zss ?_ | refine zsM ?_ | ((with_reducible first | apply AtM1.cr | apply AtQ.cr | apply At.cr); exact rfl; exact rfl; exact fun _ hmm => hk _ hmm; exact ztk; kernel_rfl) | ((with_reducible apply At.box (d := 3)); exact rfl; exact rfl; exact rfl; intro b3) | ((with_reducible apply At.box (d := 5)); exact rfl; exact rfl; exact rfl; intro b5) | ((with_reducible apply At.alloc (d := 6)); exact rfl; exact rfl; intro b6) | ((with_reducible apply At.alloc (d := 8)); exact rfl; exact rfl; intro b8) | ((with_reducible apply At.alloc (d := 11)); exact rfl; exact rfl; intro b11) | (refine zsp ?_ ?_ <;> (intro hc; (try simp only [zhcs, reduceCtorEq] at hc); (try (exfalso; first | omega | contradiction | omega | exact absurd rfl hc | exact absurd (by decide) hc))))))
    all_goals ((with_reducible apply At.retV (B := [])); exact rfl; (repeat' (first | exact RVs.nil | (with_reducible apply RVs.cons) | exact rv_tmp (by rfl) | exact rv_cellN (by rfl) (by repeat constructor) (by rfl) (by rfl) (by rfl) | exact rv_cell1 (by rfl) (by repeat constructor) (by rfl) (by rfl))); exact zml; exact zkp; exact ⟨rfl, none, 0, rfl, Sl.empty _ inferInstance⟩)
end Raw
end Go.Proofs.YtjdlnckifhifbaaGreat
/- The contracts of the package raw: those of a range. -/
set_option linter.unusedSimpArgs false
set_option linter.unusedVariables false
set_option linter.unusedSectionVars false
set_option maxRecDepth 20000
set_option maxHeartbeats 4000000
namespace Go.Proofs.YtjdlnckifhifbaaGreat
open Go Go.J
attribute [local irreducible] At AtQ AtM AtM1 PR Ct Pu Rd Res.blk Res.own Res.ex RVs RV
namespace Raw
open Ev Mrg
abbrev pt (b : Nat) : Value := .pointer (some ⟨b, 0, none⟩)
def keep (a b : Int) (e : Ev) : Bool := decide (a ≤ e.T ∧ e.T < b)
abbrev bx (b4 b5 : Nat) (a b : Int) : List Res := [.blk b4 2 [.int .i64 a], .blk b5 2 [.int .i64 b]]
abbrev ow (p : Option Addr) (c : Nat) (l : List Ev) : Res := .own cells 4 31 p c l
abbrev bxo (b4 b5 : Nat) (a b : Int) (p : Option Addr) (c : Nat) (l : List Ev) : List Res := [.blk b4 2 [.int .i64 a], .blk b5 2 [.int .i64 b], ow p c l]
structure DS where
  (i j : Nat) (L : List Ev)
theorem filt_snoc (f : Ev → Bool) (l : List Ev) (j : Nat) (hj : j < l.length) : (l.take (j + 1)).filter f = (l.take j).filter f ++ (if f (l[j]!) then [l[j]!] else []) := by
  rw [List.take_add_one, List.filter_append, getElem!_pos l j hj, List.getElem?_eq_getElem hj]
  congr 1
  simp only [Option.toList_some, List.filter_cons, List.filter_nil]
theorem all_filt {f : Ev → Bool} {l : List Ev} (h : ∀ i, i < l.length → f (l[i]!) = true) : l.filter f = l := by
  rw [List.filter_eq_self]
  intro e he
  obtain ⟨i, hi, rfl⟩ := List.mem_iff_getElem.1 he
  have := h i hi
  rwa [getElem!_pos l i hi] at this
def dinv (f : Ev → Bool) (l : List Ev) (s : DS) : Prop := s.i < s.j ∧ s.j ≤ l.length ∧ s.L.length = l.length ∧ s.L.take s.i = (l.take s.j).filter f ∧ s.L.drop s.j = l.drop s.j
theorem dinv.get {f : Ev → Bool} {l : List Ev} {s : DS} (h : dinv f l s) (hj : s.j < l.length) : s.L[s.j]! = l[s.j]! := by
  obtain ⟨_, _, h3, _, h5⟩ := h
  rw [getElem!_pos s.L s.j (by omega), getElem!_pos l s.j hj]
  have e1 : (s.L.drop s.j)[0]? = (l.drop s.j)[0]? := by rw [h5]
  rw [List.getElem?_drop, List.getElem?_drop, Nat.add_zero, List.getElem?_eq_getElem (by omega), List.getElem?_eq_getElem hj] at e1
  exact Option.some.inj e1
theorem drop_succ' {a b : List Ev} {j : Nat} (h : a.drop j = b.drop j) : a.drop (j + 1) = b.drop (j + 1) := by
  rw [← List.drop_drop, ← List.drop_drop, h]
theorem dinv.no {f : Ev → Bool} {l : List Ev} {s : DS} (h : dinv f l s) (hj : s.j < l.length) (hk : f (l[s.j]!) = false) : dinv f l ⟨s.i, s.j + 1, s.L⟩ := by
  obtain ⟨h1, h2, h3, h4, h5⟩ := h
  refine ⟨by show s.i < s.j + 1; omega, hj, h3, ?_, drop_succ' h5⟩
  show s.L.take s.i = _
  rw [filt_snoc f l s.j hj, hk, h4]; simp
theorem dinv.yes {f : Ev → Bool} {l : List Ev} {s : DS} (h : dinv f l s) (hj : s.j < l.length) (hk : f (l[s.j]!) = true) : dinv f l ⟨s.i + 1, s.j + 1, s.L.set s.i (l[s.j]!)⟩ := by
  obtain ⟨h1, h2, h3, h4, h5⟩ := h
  refine ⟨by show s.i + 1 < s.j + 1; omega, hj, by simpa using h3, ?_, ?_⟩
  · show (s.L.set s.i (l[s.j]!)).take (s.i + 1) = _
    rw [filt_snoc f l s.j hj, if_pos hk, ← h4, List.take_add_one, List.take_set_of_le (Nat.le_refl _), List.getElem?_set_self (by omega)]; rfl
  · show (s.L.set s.i (l[s.j]!)).drop (s.j + 1) = _
    rw [List.drop_set_of_lt (by omega)]; exact drop_succ' h5
end Raw
end Go.Proofs.YtjdlnckifhifbaaGreat
/- Raw events, the document's: which are right, the last one. -/
set_option linter.unusedSimpArgs false
set_option linter.unusedVariables false
set_option linter.unusedSectionVars false
set_option maxRecDepth 20000
set_option maxHeartbeats 4000000
namespace Go.Proofs.YtjdlnckifhifbaaGreat
open Go Go.J
attribute [local irreducible] At AtQ AtM AtM1 PR Ct Pu Rd Res.blk Res.own Res.ex RVs RV
namespace Raw
open Ev Mrg
abbrev rcs (lost mark : Int) (p : Option Addr) (n c : Nat) : List Value := [.int .i64 lost, .int .i64 mark, .slice p n c]
end Raw
end Go.Proofs.YtjdlnckifhifbaaGreat
/- The contracts of the package raw: a range; the document's. -/
set_option linter.unusedSimpArgs false
set_option linter.unusedVariables false
set_option linter.unusedSectionVars false
set_option maxRecDepth 20000
set_option maxHeartbeats 4000000
namespace Go.Proofs.YtjdlnckifhifbaaGreat
open Go Go.J
attribute [local irreducible] At AtQ AtM AtM1 PR Ct Pu Rd Res.blk Res.own Res.ex RVs RV
namespace Raw
open Ev Mrg
def rgE (lost mark a b : Int) : Int := if b ≤ a then 1 else if 0 < lost ∧ a ≤ mark then 11 else 0
def rgL (lost mark : Int) (l : List Ev) (a b : Int) : List Ev := if rgE lost mark a b = 0 then l.filter (keep a b) else []
theorem rgerr {g : FuncId} {args : Array Value} {m : Mem} {A : List Res} {lost mark : Int} {l : List Ev} {a b : Int} {w : Int} (hE : rgE lost mark a b = w) (hw : w ≠ 0) (h : Ct Tryz.prog g args m A (PostL [] w)) :
    Ct Tryz.prog g args m A (PostL (rgL lost mark l a b) (rgE lost mark a b)) :=
  postl h (by unfold rgL; rw [if_neg (by rw [hE]; exact hw)]) hE.symm
theorem filt_step (f : Ev → Bool) (l : List Ev) (j : Nat) (hj : j < l.length) (h : f (l[j]!) = true) : (l.take (j + 1)).filter f = (l.take j).filter f ++ [l[j]!] := by
  rw [filt_snoc f l j hj, if_pos h]
theorem filt_stay (f : Ev → Bool) (l : List Ev) (j : Nat) (hj : j < l.length) (h : f (l[j]!) = false) : (l.take (j + 1)).filter f = (l.take j).filter f := by
  rw [filt_snoc f l j hj, h]; simp
structure FS where
  (j : Nat) (p : Option Addr) (c : Nat)
end Raw
end Go.Proofs.YtjdlnckifhifbaaGreat
/- The contracts of the document's raw events: which are right, one more is put. -/
set_option linter.unusedSimpArgs false
set_option linter.unusedVariables false
set_option linter.unusedSectionVars false
set_option maxRecDepth 20000
set_option maxHeartbeats 4000000
namespace Go.Proofs.YtjdlnckifhifbaaGreat
open Go Go.J
attribute [local irreducible] At AtQ AtM AtM1 PR Ct Pu Rd Res.blk Res.own Res.ex RVs RV
namespace Raw
open Ev Mrg
end Raw
end Go.Proofs.YtjdlnckifhifbaaGreat
/- Raw events, without the program: what is put one behind the other, and what is told of a range. -/
set_option linter.unusedSimpArgs false
set_option linter.unusedVariables false
set_option linter.unusedSectionVars false
set_option maxRecDepth 20000
set_option maxHeartbeats 4000000
namespace Go.Proofs.YtjdlnckifhifbaaGreat
open Go Go.J
attribute [local irreducible] At AtQ AtM AtM1 PR Ct Pu Rd Res.blk Res.own Res.ex RVs RV
namespace Raw
open Ev Mrg
theorem ris_iff {l : List Ev} : ris l ↔ (∀ e ∈ l, e.ok) ∧ Asc l := ⟨fun h => ⟨aok_iff.1 h.1, asc_of h.2⟩, fun h => ⟨aok_iff.2 h.1, asc_to h.2⟩⟩
theorem lastV_mem {l : List Ev} (h : l.length ≠ 0) : lastV l = l[l.length - 1]! ∧ lastV l ∈ l := by
  have e : lastV l = l[l.length - 1]! := if_neg h
  exact ⟨e, by rw [e, getElem!_pos l _ (by omega)]; exact List.getElem_mem _⟩
theorem asc_snoc {l : List Ev} {e : Ev} (h : Asc l) (hl : l.length = 0 ∨ (lastV l).T < e.T) : Asc (l ++ [e]) := by
  refine List.pairwise_append.2 ⟨h, List.pairwise_singleton _ _, fun x hx y hy => ?_⟩
  rw [List.mem_singleton] at hy; subst hy
  obtain ⟨i, hi, rfl⟩ := List.mem_iff_getElem.1 hx
  rcases hl with h0 | h0
  · omega
  · have e0 := (lastV_mem (l := l) (by omega)).1
    rw [getElem!_pos l _ (by omega)] at e0
    rcases Nat.lt_or_ge i (l.length - 1) with h1 | h1
    · have := List.pairwise_iff_getElem.1 h i (l.length - 1) hi (by omega) h1
      rw [e0] at h0; omega
    · have : i = l.length - 1 := by omega
      subst this; rw [e0] at h0; exact h0
/-- what was put so far, and what there is -/
structure RA (room lost mark : Int) (l put : List Ev) : Prop where
  rr : rk lost mark l room
  ok : ∀ e ∈ put, e.ok
  asc : Asc put
  le : l.length ≤ put.length
  n : (l.length : Int) = min (put.length : Int) room
  dr : l = put.drop (put.length - l.length)
  lo : lost = (put.length : Int) - l.length
  mrk : 0 < lost → ∀ e ∈ put.take (put.length - l.length), e.T ≤ mark
theorem RA.zero {room : Int} (h1 : 1 ≤ room) (h2 : room ≤ 4096) : RA room 0 0 [] [] :=
  ⟨⟨⟨h1, h2, by show (0 : Int) ≤ _; omega, by decide, by decide⟩, ris_iff.2 ⟨(fun e h => by cases h), .nil⟩, rfl⟩, (fun e h => by cases h), .nil, Nat.le_refl _, by show (0 : Int) = min 0 room; omega, rfl, rfl, fun h => absurd h (by decide)⟩
theorem RA.put {room lost mark : Int} {l put : List Ev} {e : Ev} (h : RA room lost mark l put) (he : putE lost mark l room e = 0) :
    RA room (putO lost mark l room e) (putM lost mark l room e) (putL lost mark l room e) (put ++ [e]) := by
  obtain ⟨hk, ho, ha, hle, hn, hd, hlo, hm⟩ := h
  have hc : rk lost mark l room ∧ e.ok := by
    by_cases h : rk lost mark l room ∧ e.ok
    · exact h
    · unfold putE at he; rw [if_neg h] at he; cases he
  have he' := he
  unfold putE at he'
  rw [if_pos hc] at he'
  have h1 : l.length = 0 ∨ (lastV l).T < e.T := by
    by_cases h : l.length ≠ 0 ∧ ¬ (lastV l).T < e.T
    · rw [if_pos h] at he'; cases he'
    · by_cases h0 : l.length = 0
      · exact .inl h0
      · right; by_cases h2 : (lastV l).T < e.T
        · exact h2
        · exact absurd ⟨h0, h2⟩ h
  rw [if_neg (fun h => h1.elim (fun x => h.1 x) (fun x => h.2 x))] at he'
  have h2 : ¬ ((l.length : Int) = room ∧ lost = 70368744177664) := by
    intro h; rw [if_pos h] at he'; cases he'
  obtain ⟨⟨b1, b2, b3, b4, b5⟩, hr, hmk⟩ := hk
  obtain ⟨r1, r2⟩ := ris_iff.1 hr
  have hlast : put.length = 0 ∨ (lastV put).T < e.T := by
    by_cases h0 : put.length = 0
    · exact .inl h0
    · right
      have hl0 : l.length ≠ 0 := by omega
      have e1 := (lastV_mem hl0).1
      have e2 := (lastV_mem h0).1
      have : lastV put = lastV l := by
        rw [e1, e2, getElem!_pos put _ (by omega), getElem!_pos l _ (by omega)]
        have := congrArg (fun x : List Ev => x[l.length - 1]?) hd
        simp only [List.getElem?_drop] at this
        rw [List.getElem?_eq_getElem (by omega), List.getElem?_eq_getElem (by omega)] at this
        have e3 := Option.some.inj this
        rw [e3]
        congr 1
        omega
      rw [this]
      exact h1.resolve_left hl0
  have okp : ∀ x ∈ put ++ [e], x.ok := fun x hx => by
    rcases List.mem_append.1 hx with h | h
    · exact ho x h
    · exact (List.mem_singleton.1 h) ▸ hc.2
  have asp := asc_snoc ha hlast
  by_cases h5 : (l.length : Int) < room
  · have hp : put.length = l.length := by omega
    have hz : lost = 0 := by omega
    have hdl : l = put := by rw [hd, hp, Nat.sub_self]; rfl
    have hmark : mark = 0 := by unfold mkd at hmk; rwa [if_pos hz] at hmk
    rw [show putO lost mark l room e = lost by unfold putO; rw [if_pos he, if_pos h5], show putM lost mark l room e = mark by unfold putM; rw [if_pos he, if_pos h5],
      show putL lost mark l room e = l ++ [e] by unfold putL; rw [if_pos he, if_pos h5]]
    have hlen : (l ++ [e]).length = l.length + 1 := by simp
    have hlen2 : (put ++ [e]).length = l.length + 1 := by simp [hp]
    refine ⟨⟨⟨b1, b2, by rw [hlen]; omega, b4, b5⟩, ris_iff.2 ⟨fun x hx => okp x (by rw [← hdl]; exact hx), by rw [hdl]; exact asp⟩, ?_⟩, okp, asp, by omega, by rw [hlen, hlen2]; omega, by rw [hlen, hlen2, Nat.sub_self, hdl]; rfl, by rw [hlen, hlen2]; omega, fun h => by omega⟩
    unfold mkd; rw [if_pos hz]; exact hmark
  · have hl : (l.length : Int) = room := by omega
    rw [show putO lost mark l room e = lost + 1 by unfold putO; rw [if_pos he, if_neg h5], show putM lost mark l room e = (l[0]!).T by unfold putM; rw [if_pos he, if_neg h5],
      show putL lost mark l room e = l.drop 1 ++ [e] by unfold putL; rw [if_pos he, if_neg h5]]
    have hl0 : 0 < l.length := by omega
    have hlen : (l.drop 1 ++ [e]).length = l.length := by simp; omega
    have hlen2 : (put ++ [e]).length = put.length + 1 := by simp
    have hdr : l.drop 1 ++ [e] = (put ++ [e]).drop (put.length + 1 - l.length) := by
      rw [List.drop_append_of_le_length (by omega)]
      congr 1
      rw [show put.length + 1 - l.length = (put.length - l.length) + 1 by omega, ← List.drop_drop, ← hd]
    have has : Asc (l.drop 1 ++ [e]) := by rw [hdr]; exact asp.sublist (List.drop_sublist _ _)
    have hok0 : (l[0]!).ok := by rw [getElem!_pos l 0 hl0]; exact r1 _ (List.getElem_mem _)
    have hfirst : (l[0]!).T < ((l.drop 1 ++ [e])[0]!).T := by
      have : Asc (l ++ [e]) := asc_snoc r2 h1
      have h3 := List.pairwise_iff_getElem.1 this 0 1 (by simp) (by simp; omega) (by decide)
      rw [List.getElem_append_left hl0] at h3
      rw [getElem!_pos l 0 hl0, getElem!_pos _ 0 (by omega)]
      refine Int.lt_of_lt_of_le h3 (Int.le_of_eq (congrArg Ev.T ?_))
      have e1 : l.drop 1 ++ [e] = (l ++ [e]).drop 1 := by rw [List.drop_append_of_le_length (by omega)]
      simp only [e1, List.getElem_drop]
    refine ⟨⟨⟨b1, b2, by rw [hlen]; omega, by omega, by omega⟩, ris_iff.2 ⟨fun x hx => okp x (List.mem_of_mem_drop (by rw [← hdr]; exact hx)), has⟩, ?_⟩, okp, asp, by omega, by rw [hlen, hlen2]; omega, by rw [hlen, hlen2]; exact hdr, by rw [hlen, hlen2]; omega, fun _ x hx => ?_⟩
    · unfold mkd; rw [if_neg (by omega)]
      exact ⟨by rw [hlen]; exact hl, hok0.1, hfirst⟩
    · rw [hlen, hlen2, List.take_append_of_le_length (by omega), show put.length + 1 - l.length = (put.length - l.length) + 1 by omega] at hx
      have hi : put.length - l.length < put.length := by omega
      have e0 : put[put.length - l.length] = l[0]! := by
        have := congrArg (fun x : List Ev => x[0]?) hd
        simp only [List.getElem?_drop, Nat.add_zero] at this
        rw [List.getElem?_eq_getElem hl0, List.getElem?_eq_getElem hi] at this
        rw [getElem!_pos l 0 hl0]; exact (Option.some.inj this).symm
      rw [List.take_add_one, List.getElem?_eq_getElem hi, Option.toList_some] at hx
      rcases List.mem_append.1 hx with h | h
      · obtain ⟨i, hi2, rfl⟩ := List.mem_iff_getElem.1 h
        rw [List.getElem_take]
        have hi3 : i < put.length - l.length := by rw [List.length_take] at hi2; omega
        have := List.pairwise_iff_getElem.1 ha i (put.length - l.length) (by omega) hi hi3
        rw [e0] at this; omega
      · rw [List.mem_singleton.1 h, e0]; exact Int.le_refl _
/-- of a range, all of it -/
theorem RA.all {room lost mark : Int} {l put : List Ev} (h : RA room lost mark l put) {a b : Int} (he : rgE lost mark a b = 0) : rgL lost mark l a b = put.filter (keep a b) := by
  have hm := h.mrk
  have hlo := h.lo
  unfold rgL
  rw [if_pos he]
  have hq : put.filter (keep a b) = (put.take (put.length - l.length)).filter (keep a b) ++ l.filter (keep a b) := by
    conv => lhs; rw [← List.take_append_drop (put.length - l.length) put]
    rw [List.filter_append, ← h.dr]
  suffices hz : (put.take (put.length - l.length)).filter (keep a b) = [] from by rw [hq, hz, List.nil_append]
  refine List.filter_eq_nil_iff.2 ?_
  intro x hx hk
  have hk' : a ≤ x.T ∧ x.T < b := of_decide_eq_true hk
  unfold rgE at he
  by_cases h1 : b ≤ a
  · rw [if_pos h1] at he; cases he
  · rw [if_neg h1] at he
    by_cases h2 : 0 < lost ∧ a ≤ mark
    · rw [if_pos h2] at he; cases he
    · have h0 : 0 < lost := by
        have := List.length_pos_of_mem hx
        rw [List.length_take] at this
        have := h.le
        omega
      have := hm h0 x hx
      omega
theorem within {lost mark a b c d : Int} (h : rgE lost mark a b = 0) (h1 : ¬ c < a) (h2 : ¬ b < d) (h3 : ¬ d ≤ c) : rgE lost mark c d = 0 := by
  unfold rgE at h ⊢
  rw [if_neg h3]
  by_cases h4 : b ≤ a
  · rw [if_pos h4] at h; cases h
  · rw [if_neg h4] at h
    by_cases h5 : 0 < lost ∧ a ≤ mark
    · rw [if_pos h5] at h; cases h
    · rw [if_neg (by omega)]
theorem rgL_none {lost mark : Int} {l : List Ev} {a b : Int} (h : rgE lost mark a b ≠ 0) : rgL lost mark l a b = [] := if_neg h
end Raw
end Go.Proofs.YtjdlnckifhifbaaGreat
/- A series to which events were put, in plain words; it is right. -/
set_option linter.unusedSimpArgs false
set_option linter.unusedVariables false
set_option linter.unusedSectionVars false
set_option maxRecDepth 20000
set_option maxHeartbeats 4000000
namespace Go.Proofs.YtjdlnckifhifbaaGreat
open Go Go.J
namespace Sv
open Cell Ti Fo Gr Se
abbrev tt (x : Ser) : TT := ⟨x.t0, x.t1, x.t2⟩
/-- the events were put, and no other ones -/
structure SI (K : Cfg) (es : List Ev) (x : Ser) : Prop where
  inv : Inv K es (tt x).ls x.op
  last : x.last = if es = [] then -1 else lastT es
  raw : Raw.RA K.r x.lost x.mark x.raw.l es
  lab : Lb.right x.lab.l
theorem bhd_lv {w n c i : Int} {es : List Ev} {l : List Slot} (h : Lv w n es c l) (hi : c ≤ i) : bhd l i = false := by
  unfold bhd
  rw [List.any_eq_false]
  intro s hs hb
  have hb := of_decide_eq_true hb
  have hk : keep s = true := keep_ne.2 fun e => by rw [e] at hb; exact absurd hb.1 (by decide)
  have := (h.snd s hs hk).1
  omega
theorem drop_last {α : Type} [Inhabited α] {l : List α} {k : Nat} (hk : k < l.length) : (l.drop k)[(l.drop k).length - 1]! = l.getLast (List.ne_nil_of_length_pos (by omega)) := by
  have hl : (l.drop k).length = l.length - k := List.length_drop
  rw [getElem!_pos _ _ (by omega), List.getElem_drop, List.getLast_eq_getElem]
  congr 1
  omega
theorem SI.fst {K : Cfg} {es : List Ev} {x : Ser} (h : SI K es x) (hn : es ≠ []) : x.raw.l.length ≠ 0 ∧ (Raw.lastV x.raw.l).T = lastT es := by
  have h1 := List.length_pos_iff.2 hn
  have hr := h.inv.ok.hr
  have h2 := h.raw.n
  have h3 : x.raw.l.length ≠ 0 := by omega
  refine ⟨h3, ?_⟩
  unfold Raw.lastV
  rw [if_neg h3, lastT_get hn]
  have h4 := drop_last (l := es) (k := es.length - x.raw.l.length) (by have := h.raw.le; omega)
  rw [← h.raw.dr] at h4
  rw [h4]
theorem SI.pos {K : Cfg} {es : List Ev} {x : Ser} (h : SI K es x) (hn : es ≠ []) : x.last = lastT es ∧ 0 ≤ x.last ∧ x.last ≤ 35184372088831 := by
  have e : x.last = lastT es := h.last.trans (if_neg hn)
  have := last_bd h.inv.g hn
  rw [e]
  exact ⟨rfl, this⟩
theorem SI.sok {K : Cfg} {es : List Ev} {x : Ser} (h : SI K es x) : sok K x := by
  refine ⟨h.inv.fk, h.lab, h.raw.rr, ?_⟩
  by_cases hn : es = []
  · rw [if_pos (h.last.trans (if_pos hn))]
    have e0 : ∀ w : Int, lastT es / w = 0 := fun w => by rw [hn]; exact Int.zero_ediv w
    have h0 := bhd_lv h.inv.a (i := 0) (by rw [e0]; exact Int.le_refl _)
    have h1 := bhd_lv h.inv.b (i := 0) (by rw [e0]; exact Int.le_refl _)
    have h2 := bhd_lv h.inv.c (i := 0) (by rw [e0]; exact Int.le_refl _)
    change bhd x.t0.l 0 = false at h0
    change bhd x.t1.l 0 = false at h1
    change bhd x.t2.l 0 = false at h2
    have h3 : x.raw.l.length = 0 := by have := h.raw.le; rw [hn] at this; exact Nat.le_zero.1 this
    have h4 : x.op = Slot.z := h.inv.op.trans (if_pos hn)
    unfold frs
    rw [h0, h1, h2, decide_eq_true ⟨h3, h4⟩]
    rfl
  · obtain ⟨hl, hp, -⟩ := h.pos hn
    rw [if_neg (by omega)]
    have h0 := bhd_lv h.inv.a (i := lastT es / K.a) (Int.le_refl _)
    have h1 := bhd_lv h.inv.b (i := lastT es / K.b) (Int.le_refl _)
    have h2 := bhd_lv h.inv.c (i := lastT es / K.d) (Int.le_refl _)
    rw [← hl] at h0 h1 h2
    change bhd x.t0.l _ = false at h0
    change bhd x.t1.l _ = false at h1
    change bhd x.t2.l _ = false at h2
    obtain ⟨h3, h4⟩ := h.fst hn
    have h5 := h.inv.lastC hn
    have h6 := (h.inv.open_ hn).2.2.1
    have hb : edB x K := ⟨if_neg h3, h4.trans hl.symm, h5.trans hl.symm, h6⟩
    unfold eds
    rw [h0, h1, h2, decide_eq_true hb]
    rfl
end Sv
end Go.Proofs.YtjdlnckifhifbaaGreat
/- The package series: New; turn, add, Put of an event that follows. -/
set_option linter.unusedSimpArgs false
set_option linter.unusedVariables false
set_option linter.unusedSectionVars false
set_option maxRecDepth 20000
set_option maxHeartbeats 4000000
namespace Go.J
open Go
/-- what a block has, said in other words -/
theorem At.sayblk {n : Nat} {F : Fr} {m : Mem} {w0 : World} {Rs Rs' : List Res} {E : TypeId} {K : Act → World → Prop} {b : Nat} {cs cs' : List Value} (hp : Pick Rs (.blk b E cs) Rs') (e : cs = cs') (h : At n w0 F m (.blk b E cs' :: Rs') K) : At n w0 F m Rs K := At.ent (Ent.of_pick hp) (e ▸ h)
end Go.J
namespace Go.Proofs.YtjdlnckifhifbaaGreat
open Go Go.J
attribute [local irreducible] At AtQ AtM AtM1 PR Ct Pu Rd Res.blk Res.own Res.ex RVs RV
namespace Sv
open Slot Ti Gr Se
open Fo hiding pt
theorem cloneO {m : Mem} (p : Option Addr) (c : Nat) (l : List Lab) (hl : l.length ≤ 1000000) (sl0 : Sl m Lb.cells 2 p c l) :
    Ct Tryz.prog 35 #[.slice p l.length c] m [] (fun v m' B => m = m' ∧ ∃ p2 c2, v = .slice p2 l.length c2 ∧ B = [.own Lb.cells 2 77 p2 c2 l]) := by
  cases p with
  | none =>
    have h0 : l = [] := List.eq_nil_of_length_eq_zero (by have := sl0.nil rfl; have := sl0.le; omega)
    subst h0
    refine Ct.enterV (by rfl) Tryz.func35 rfl Tryz.ntmps35 rfl (fun w0 Rest => ?_)
    (repeat' (first | refine zss ?_ | ((first | (with_reducible first | apply At.val | apply AtQ.val)); (exact pr_sleql (by rfl) (by rfl) (by rfl)); exact rfl) | refine zsM ?_ | (refine zsp ?_ ?_ <;> (intro hc; (try simp only [zhcs, reduceCtorEq] at hc); (try (exfalso; first | contradiction | omega | exact absurd rfl hc | exact absurd (by decide) hc))))))
    all_goals refine At.own_nil Lb.cells 2 77 ?_
    all_goals ((with_reducible apply At.retB1 (B := [.own Lb.cells 2 77 _ _ _])); exact rfl; exact rfl; exact zml; exact zkp; exact ⟨rfl, _, _, rfl, rfl⟩)
  | some a =>
    refine Ct.enterV (by rfl) Tryz.func35 rfl Tryz.ntmps35 rfl (fun w0 Rest => ?_)
    (repeat' (first | refine zss ?_ | ((first | (with_reducible first | apply At.val | apply AtQ.val)); (exact pr_sleql (by rfl) (by rfl) (by rfl)); exact rfl) | refine zsM ?_ | ((with_reducible apply At.lit Lb.cells ([] : List Lab)); exact inferInstance; (iterate 7 exact rfl); intro _) | ((with_reducible apply At.apW (f := Lb.cells)); exact rfl; exact rfl; exact (by repeat constructor); exact inferInstance; exact zrdl; (iterate 4 exact rfl); exact zom; exact rfl; intro _ _) | (refine zsp ?_ ?_ <;> (intro hc; (try simp only [zhcs, reduceCtorEq] at hc); (try (exfalso; first | contradiction | omega | exact absurd rfl hc | exact absurd (by decide) hc))))))
    all_goals ((with_reducible apply At.retB1 (B := [.own Lb.cells 2 77 _ _ _])); exact rfl; exact rfl; exact zml; exact zkp; exact ⟨rfl, _, _, rfl, rfl⟩)
theorem cloneL {m : Mem} (p : Option Addr) (c : Nat) (l : List Lab) (hl : l.length ≤ 1000000) (sl0 : Sl m Lb.cells 2 p c l) :
    Ct Tryz.prog 35 #[.slice p l.length c] m [] (fun v m' B => B = [] ∧ ∃ p2 c2, v = .slice p2 l.length c2 ∧ Sl m' Lb.cells 2 p2 c2 l) :=
  Ct.slice (R := fun v p c => v = .slice p l.length c) inferInstance (Ct.mono (cloneO p c l hl sl0) fun v m' B _ ⟨_, p, c, h2, h3⟩ => ⟨p, c, h2, h3⟩)
theorem inn {K : Cfg} {es : List Ev} {T : L3} {o : Slot} (h : Inv K es T o) : Slot.In o := by
  by_cases hn : es = []
  · have : o = Slot.z := h.op.trans (if_pos hn)
    rw [this]; exact z_in
  · obtain ⟨e, _, _, _⟩ := h.open_ hn
    have hb := last_bd h.g hn
    have h1 := Int.ediv_nonneg hb.1 (show 0 ≤ K.a by have := h.ok.ha; omega)
    have h2 := Int.ediv_le_self K.a hb.1
    have hc : Cell.In (G K.a es (lastT es / K.a)) := cel_in (h.g.sub (win_sub _ _ _))
    rw [e]
    exact ⟨by dsimp only; omega, hc.1, hc.2.1, hc.2.2.1, hc.2.2.2⟩
/-- what has tiers, and all else of x -/
theorem okT {m : Mem} {x : Ser} {t : TT} {o : Slot} (h : x.Ok m) (ht : t.Ok m) (ho : Slot.In o) : (⟨x.lab, x.last, x.lost, x.mark, x.raw, t.a, t.b, t.c, o⟩ : Ser).Ok m :=
  ⟨h.sl, h.sr, ht.a.sl, ht.b.sl, ht.c.sl, h.ml, ht.a.i, ht.b.i, ht.c.i, ho, h.ir, h.nl, h.nr, ht.a.n, ht.b.n, ht.c.n, h.bl⟩
theorem okS {m : Mem} {x : Ser} (h : x.Ok m) : (tt x).Ok m := ⟨⟨h.s0, h.i0, h.n0⟩, ⟨h.s1, h.i1, h.n1⟩, ⟨h.s2, h.i2, h.n2⟩⟩
theorem zc : [Value.int .i64 0, .int .i64 0, .int .i64 0, .int .u64 0, .int .i64 0, .bool false, .int .i64 0, .int .u64 0, .int .i64 0, .bool false, .int .u64 0, .int .u64 0, .int .i64 0, .int .i64 0, .int .i64 0] = Slot.cells Slot.z := rfl
theorem new_v (A r a b c : Value) : Value.tuple #[Value.agg #[A, .int .i64 (-1), .int .i64 0, .int .i64 0, r, a, b, c, .int .i64 0, .int .i64 0, .int .i64 0, .int .u64 0, .int .i64 0, .bool false, .int .i64 0, .int .u64 0, .int .i64 0, .bool false, .int .u64 0, .int .u64 0, .int .i64 0, .int .i64 0, .int .i64 0], .int .i64 0] = Value.tuple #[Value.agg (A :: Value.int .i64 (-1) :: Value.int .i64 0 :: Value.int .i64 0 :: r :: a :: b :: c :: Slot.cells Slot.z).toArray, .int .i64 0] :=
  congrArg (fun L : List Value => Value.tuple #[Value.agg (A :: Value.int .i64 (-1) :: Value.int .i64 0 :: Value.int .i64 0 :: r :: a :: b :: c :: L).toArray, Value.int .i64 0]) zc
theorem new_ {m : Mem} (K : Cfg) (p : Option Addr) (c : Nat) (l : List Lab) (hK : K.ok) (hR : Lb.right l) (ml : Lb.Mid l) (sl0 : Sl m Lb.cells 2 p c l) :
    Ct Tryz.prog 22 #[K.v, .slice p l.length c] m [] (fun v m' B => B = [] ∧ ∃ x : Ser, v = .tuple #[x.v, .int .i64 0] ∧ x.Ok m' ∧ SI K [] x ∧ x.lab.l = l) := by
  have k0 := Cfg.check K
  unfold Cfg.chk at k0
  rw [if_pos hK] at k0
  have k1 := fun (m' : Mem) (h : m.le m') => Lb.check p c l ml (sl0.mono h)
  unfold Lb.chk at k1
  rw [if_pos hR] at k1
  have hl : l.length ≤ 1000000 := Nat.le_trans hR.2.1 (by decide)
  have k2 := fun (m' : Mem) (h : m.le m') => cloneL p c l hl (sl0.mono h)
  have k3 := fun (m' : Mem) => Fo.empty (m := m') K
  have fin : ∀ (m' : Mem) p2 c2 (t : TT), Sl m' Lb.cells 2 p2 c2 l → t.Ok m' → t.ls = emp K → (⟨⟨p2, c2, l⟩, -1, 0, 0, Lst.nil, t.a, t.b, t.c, Slot.z⟩ : Ser).Ok m' ∧ SI K [] (⟨⟨p2, c2, l⟩, -1, 0, 0, Lst.nil, t.a, t.b, t.c, Slot.z⟩ : Ser) := fun m' p2 c2 t sl ht e =>
    ⟨⟨sl, Sl.empty m' inferInstance, ht.a.sl, ht.b.sl, ht.c.sl, ml, ht.a.i, ht.b.i, ht.c.i, z_in, fun _ h => absurd h List.not_mem_nil, hl, Nat.zero_le _, ht.a.n, ht.b.n, ht.c.n, (by decide : -9223372036854775808 ≤ (-1 : Int) ∧ (-1 : Int) ≤ 9223372036854775807)⟩,
     ⟨by show Inv K [] t.ls Slot.z; rw [e]; exact Inv.new hK, rfl, Raw.RA.zero hK.hr.1 hK.hr.2, hR⟩⟩
  clear hR ml hK
  refine Ct.enterV (by rfl) Tryz.func22 rfl Tryz.ntmps22 rfl (fun w0 Rest => ?_)
  (repeat' (first | ((with_reducible apply At.mixed (id := 7) 7 (.q 0 (.q 2 (.l 1 (.x 3 (.q 4 (.x 5 (.q 6 .done)))))))); exact rfl; kernel_rfl; kernel_rfl; kernel_rfl) | refine zsx ?_ | refine zss ?_ | ((with_reducible apply AtM.bo); exact rfl; exact rfl; exact rfl) | refine zsM ?_ | refine zxM ?_ | ((with_reducible first | apply AtM1.callp | apply AtQ.callp | apply At.callp); kernel_rfl; exact rfl; exact rfl; exact k0) | ((with_reducible first | apply AtM1.cr | apply AtQ.cr | apply At.cr); exact rfl; exact rfl; exact fun _ hmm => k1 _ hmm; exact ztk; kernel_rfl) | ((with_reducible first | apply At.c1 | apply At.c0); exact rfl; exact rfl; exact k2 _ zml; exact ztk; kernel_rfl; rintro v' m' B' hm' ⟨rfl, p2, c2, rfl, sl9⟩; (try replace sl0 := sl0.mono hm'); (try replace sl9 := sl9.mono hm'); (try (have hq0 : hm' = Mem.le_refl _ := rfl; clear hq0 hm'))) | ((with_reducible first | apply At.c1 | apply At.c0); exact rfl; exact rfl; exact k3 _; exact ztk; kernel_rfl; rintro v' m' B' hm' ⟨rfl, t, rfl, ht1, ht2⟩; (try replace sl0 := sl0.mono hm'); (try replace sl9 := sl9.mono hm'); (try (have hq0 : hm' = Mem.le_refl _ := rfl; clear hq0 hm'))) | ((with_reducible apply At.box (d := 2)); exact rfl; exact rfl; exact rfl; intro b2) | ((with_reducible apply At.alloc (d := 4)); exact rfl; exact rfl; intro b4) | (refine zsp ?_ ?_ <;> (intro hc; (try simp only [zhcs, reduceCtorEq] at hc); (try (exfalso; first | omega | contradiction | omega | exact absurd rfl hc | exact absurd (by decide) hc))))))
  all_goals (obtain ⟨f1, f2⟩ := fin _ _ _ t sl9 ht1 ht2)
  all_goals ((with_reducible apply At.retV (B := [])); exact rfl; (repeat' (first | exact RVs.nil | (with_reducible apply RVs.cons) | exact rv_tmp (by rfl) | exact rv_cellN (by rfl) (by repeat constructor) (by rfl) (by rfl) (by rfl) | exact rv_cell1 (by rfl) (by repeat constructor) (by rfl) (by rfl))); exact zml; exact zkp; exact ⟨rfl, (⟨⟨p2, c2, l⟩, -1, 0, 0, Lst.nil, t.a, t.b, t.c, Slot.z⟩ : Ser), new_v _ _ _ _ _, f1, f2, rfl⟩)
theorem newN {m : Mem} (K : Cfg) (p : Option Addr) (c : Nat) (l : List Lab) (hn : ¬ (K.ok ∧ Lb.right l)) (ml : Lb.Mid l) (sl0 : Sl m Lb.cells 2 p c l) :
    Ct Tryz.prog 22 #[K.v, .slice p l.length c] m [] (fun v m' B => B = [] ∧ ∃ w, v = .tuple #[Ser.z.v, .int .i64 w] ∧ w ≠ 0) := by
  have k0 := Cfg.check K
  unfold Cfg.chk at k0
  by_cases hK : K.ok
  · rw [if_pos hK] at k0
    have k1 := fun (m' : Mem) (h : m.le m') => Lb.check p c l ml (sl0.mono h)
    unfold Lb.chk at k1
    rw [if_neg (fun h => hn ⟨hK, h⟩)] at k1
    refine Ct.enterV (by rfl) Tryz.func22 rfl Tryz.ntmps22 rfl (fun w0 Rest => ?_)
    (repeat' (first | refine zss ?_ | refine zsM ?_ | ((with_reducible first | apply AtM1.callp | apply AtQ.callp | apply At.callp); kernel_rfl; exact rfl; exact rfl; exact k0) | ((with_reducible first | apply AtM1.cr | apply AtQ.cr | apply At.cr); exact rfl; exact rfl; exact fun _ hmm => k1 _ hmm; exact ztk; kernel_rfl) | ((with_reducible apply At.box (d := 2)); exact rfl; exact rfl; exact rfl; intro b2) | ((with_reducible apply At.alloc (d := 4)); exact rfl; exact rfl; intro b4) | (refine zsp ?_ ?_ <;> (intro hc; (try simp only [zhcs, reduceCtorEq] at hc); (try (exfalso; first | omega | contradiction | omega | exact absurd rfl hc | exact absurd (by decide) hc))))))
    all_goals ((with_reducible apply At.retV (B := [])); exact rfl; (repeat' (first | exact RVs.nil | (with_reducible apply RVs.cons) | exact rv_tmp (by rfl) | exact rv_cellN (by rfl) (by repeat constructor) (by rfl) (by rfl) (by rfl) | exact rv_cell1 (by rfl) (by repeat constructor) (by rfl) (by rfl))); exact zml; exact zkp; exact ⟨rfl, 8, rfl, by decide⟩)
  · rw [if_neg hK] at k0
    refine Ct.enterV (by rfl) Tryz.func22 rfl Tryz.ntmps22 rfl (fun w0 Rest => ?_)
    (repeat' (first | refine zss ?_ | refine zsM ?_ | ((with_reducible first | apply AtM1.callp | apply AtQ.callp | apply At.callp); kernel_rfl; exact rfl; exact rfl; exact k0) | ((with_reducible apply At.box (d := 2)); exact rfl; exact rfl; exact rfl; intro b2) | ((with_reducible apply At.alloc (d := 4)); exact rfl; exact rfl; intro b4) | (refine zsp ?_ ?_ <;> (intro hc; (try simp only [zhcs, reduceCtorEq] at hc); (try (exfalso; first | omega | contradiction | omega | exact absurd rfl hc | exact absurd (by decide) hc))))))
    all_goals ((with_reducible apply At.retV (B := [])); exact rfl; (repeat' (first | exact RVs.nil | (with_reducible apply RVs.cons) | exact rv_tmp (by rfl) | exact rv_cellN (by rfl) (by repeat constructor) (by rfl) (by rfl) (by rfl) | exact rv_cell1 (by rfl) (by repeat constructor) (by rfl) (by rfl))); exact zml; exact zkp; exact ⟨rfl, 2, rfl, by decide⟩)
theorem turn_ {m : Mem} (q : Nat) (K : Cfg) (x : Ser) (es : List Ev) (e : Ev) (h : SI K es x) (ho : x.Ok m) (hG : Gr.Good (es ++ [e])) :
    Ct Tryz.prog 38 #[pt q, .int .i64 (e.T / K.a)] m (kb q K x) (fun v m' B => v = .int .i64 0 ∧ ∃ (t : TT) (o : Slot), B = kb q K ⟨x.lab, x.last, x.lost, x.mark, x.raw, t.a, t.b, t.c, o⟩ ∧ t.Ok m' ∧ Slot.In o ∧ Cell.addE o.c e = (Cell.add o.c e, 0) ∧ Inv K (es ++ [e]) t.ls ⟨e.T / K.a, Cell.add o.c e⟩) := by
  obtain ⟨T', o', c1, c2, ca, hN⟩ := h.inv.step hG
  have hio := inn h.inv
  have hn0 : 0 ≤ x.op.c.n := by
    by_cases hn : es = []
    · rw [h.inv.op.trans (if_pos hn)]; decide
    · have := (h.inv.open_ hn).2.1.n; omega
  by_cases hcond : 0 < x.op.c.n ∧ x.op.w ≠ e.T / K.a
  · obtain ⟨d1, d2, rfl⟩ := c1 hcond
    have kc := fun (m' : Mem) (h : m.le m') => close_ (m := m') K (tt x) x.op (e.T / K.a) ((okS ho).mono h) hio
    rw [d1, d2] at kc
    have hos := okS ho
    clear c1 c2 d1 d2 hG hio ho h hn0
    generalize e.T / K.a = i at *
    refine Ct.enterV (by rfl) Tryz.func38 rfl Tryz.ntmps38 rfl (fun w0 Rest => ?_)
    (repeat' (first | ((with_reducible apply At.mixed (id := 3) 22 (.q 0 (.q 1 (.q 2 (.q 3 (.q 4 (.q 5 (.q 6 (.q 7 (.q 8 (.q 9 (.q 10 (.q 11 (.q 12 (.q 13 (.q 14 (.b 15 19 (.q 16 (.q 17 (.q 18 (.l 19 (.x 20 (.q 21 .done)))))) (.l 15 (.q 16 (.q 17 (.q 18 (.x 20 (.q 21 .done))))))))))))))))))))))); exact rfl; kernel_rfl; kernel_rfl; kernel_rfl) | refine zsx ?_ | refine zss ?_ | ((with_reducible apply AtM.bo); exact rfl; exact rfl; exact rfl) | refine zsM ?_ | refine zxM ?_ | ((with_reducible first | apply At.c1 | apply At.c0); exact rfl; exact rfl; exact kc _ zml; exact ztk; kernel_rfl; rintro v' m' B' hm' ⟨rfl, t', rfl, ht1, ht2⟩; skip; (try (have hq0 : hm' = Mem.le_refl _ := rfl; clear hq0 hm'))) | ((with_reducible apply At.alloc (d := 5)); exact rfl; exact rfl; intro b5) | (refine zsp ?_ ?_ <;> (intro hc; (try simp only [zhcs, reduceCtorEq] at hc); (try (exfalso; first | (first | omega | exact absurd hc hcond.2) | contradiction | omega | exact absurd rfl hc | exact absurd (by decide) hc))))))
    all_goals refine At.sayblk (b := q) (cs' := K.cells ++ Ser.cells ⟨x.lab, x.last, x.lost, x.mark, x.raw, t'.a, t'.b, t'.c, Slot.z⟩) (by repeat constructor) (congrArg (fun L : List Value => K.cells ++ (x.lab.v :: Value.int .i64 x.last :: Value.int .i64 x.lost :: Value.int .i64 x.mark :: x.raw.v :: t'.a.v :: t'.b.v :: t'.c.v :: L)) zc) ?_
    all_goals ((with_reducible apply At.retV (B := kb q K ⟨x.lab, x.last, x.lost, x.mark, x.raw, t'.a, t'.b, t'.c, Slot.z⟩)); exact rfl; (repeat' (first | exact RVs.nil | (with_reducible apply RVs.cons) | exact rv_tmp (by rfl) | exact rv_cellN (by rfl) (by repeat constructor) (by rfl) (by rfl) (by rfl) | exact rv_cell1 (by rfl) (by repeat constructor) (by rfl) (by rfl))); exact zml; exact zkp; exact ⟨rfl, t', Slot.z, rfl, ht1, z_in, ca, by rw [ht2]; exact hN⟩)
  · obtain ⟨rfl, rfl⟩ := c2 hcond
    have hos := okS ho
    clear c1 c2 hG ho h
    generalize e.T / K.a = i at *
    refine Ct.enterV (by rfl) Tryz.func38 rfl Tryz.ntmps38 rfl (fun w0 Rest => ?_)
    (repeat' (first | refine zss ?_ | refine zsM ?_ | ((with_reducible apply At.alloc (d := 5)); exact rfl; exact rfl; intro b5) | (refine zsp ?_ ?_ <;> (intro hc; (try simp only [zhcs, reduceCtorEq] at hc); (try (exfalso; first | omega | contradiction | omega | exact absurd rfl hc | exact absurd (by decide) hc))))))
    all_goals ((with_reducible apply At.retV (B := kb q K x)); exact rfl; (repeat' (first | exact RVs.nil | (with_reducible apply RVs.cons) | exact rv_tmp (by rfl) | exact rv_cellN (by rfl) (by repeat constructor) (by rfl) (by rfl) (by rfl) | exact rv_cell1 (by rfl) (by repeat constructor) (by rfl) (by rfl))); exact zml; exact zkp; exact ⟨rfl, tt x, x.op, rfl, hos.mono zml, hio, ca, hN⟩)
theorem put_ok {K : Cfg} {es : List Ev} {x : Ser} {e : Ev} (h : SI K es x) (hG : Gr.Good (es ++ [e])) (hlen : es.length ≤ 1000000) : Raw.putE x.lost x.mark x.raw.l K.r e = 0 := by
  obtain ⟨-, hev, hlt⟩ := good_last hG
  unfold Raw.putE
  have h1 := h.raw.lo
  have h2 := h.raw.le
  rw [if_pos ⟨h.raw.rr, hev.1⟩, if_neg, if_neg (by omega)]
  rintro ⟨h3, h4⟩
  refine h4 ?_
  have hn : es ≠ [] := fun hn => h3 (by rw [hn] at h2; exact Nat.le_zero.1 h2)
  rw [(h.fst hn).2, lastT_get hn]
  exact hlt _ (List.getLast_mem hn)
theorem add_ {m : Mem} (q : Nat) (K : Cfg) (y : Ser) (i : Int) (e : Ev) (ho : y.Ok m) (he : e.V < 18446744073709551616) (hp : Raw.putE y.lost y.mark y.raw.l K.r e = 0) (ha : Cell.addE y.op.c e = (Cell.add y.op.c e, 0)) :
    Ct Tryz.prog 39 #[pt q, .int .i64 i, e.v] m (kb q K y) (fun v m' B => v = .int .i64 0 ∧ ∃ p c, B = kb q K ⟨y.lab, e.T, Raw.putO y.lost y.mark y.raw.l K.r e, Raw.putM y.lost y.mark y.raw.l K.r e, ⟨p, c, Raw.putL y.lost y.mark y.raw.l K.r e⟩, y.t0, y.t1, y.t2, ⟨i, Cell.add y.op.c e⟩⟩ ∧ Sl m' Ev.cells 4 p c (Raw.putL y.lost y.mark y.raw.l K.r e)) := by
  have k1 := fun (m' : Mem) (h : m.le m') => Raw.put (m := m') y.lost y.mark y.raw.p y.raw.c y.raw.l K.r e ho.nr (ho.sr.mono h)
  rw [hp] at k1
  unfold Raw.PostR at k1
  have k2 := Cell.add_ y.op.c e (slot_cell ho.io) he
  rw [ha] at k2
  clear ha hp ho
  generalize Raw.putO y.lost y.mark y.raw.l K.r e = po at *
  generalize Raw.putM y.lost y.mark y.raw.l K.r e = pm at *
  generalize Raw.putL y.lost y.mark y.raw.l K.r e = pl at *
  generalize Cell.add y.op.c e = ca at *
  refine Ct.enterV (by rfl) Tryz.func39 rfl Tryz.ntmps39 rfl (fun w0 Rest => ?_)
  (repeat' (first | ((with_reducible apply At.mixedX (id := 5) [.blk q 106 (K.cells ++ y.cells)] 21 (.q 0 (.q 1 (.q 2 (.q 3 (.q 4 (.q 5 (.q 6 (.q 7 (.q 8 (.q 9 (.q 10 (.q 11 (.l 12 (.q 13 (.q 14 (.q 15 (.l 16 (.q 17 (.q 18 (.q 19 (.x 20 .done)))))))))))))))))))))); (repeat' (first | exact Take.nil | ((with_reducible apply Take.cons); (focus ((repeat constructor); done))))); exact rfl; kernel_rfl; kernel_rfl; kernel_rfl) | ((with_reducible apply At.mixed (id := 1) 18 (.q 0 (.q 1 (.q 2 (.q 3 (.q 4 (.q 5 (.q 6 (.q 7 (.q 8 (.q 9 (.q 10 (.b 11 15 (.q 12 (.q 13 (.q 14 (.l 15 (.x 16 (.q 17 .done)))))) (.l 11 (.q 12 (.q 13 (.q 14 (.x 16 (.q 17 .done))))))))))))))))))); exact rfl; kernel_rfl; kernel_rfl; kernel_rfl) | ((with_reducible apply At.mixed (id := 2) 14 (.q 0 (.q 1 (.q 2 (.q 3 (.q 4 (.q 5 (.q 6 (.b 7 11 (.q 8 (.q 9 (.q 10 (.l 11 (.x 12 (.q 13 .done)))))) (.l 7 (.q 8 (.q 9 (.q 10 (.x 12 (.q 13 .done))))))))))))))); exact rfl; kernel_rfl; kernel_rfl; kernel_rfl) | refine zsx ?_ | refine zss ?_ | ((with_reducible apply AtM.bo); exact rfl; exact rfl; exact rfl) | refine zsM ?_ | refine zxM ?_ | ((with_reducible first | apply At.c1 | apply At.c0); exact rfl; exact rfl; exact k1 _ zml; exact ztk; kernel_rfl; rintro v' m' B' hm' ⟨rfl, p2, c2, rfl, sl9⟩; (try replace sl9 := sl9.mono hm'); (try (have hq0 : hm' = Mem.le_refl _ := rfl; clear hq0 hm'))) | ((with_reducible first | apply AtM1.callp | apply AtQ.callp | apply At.callp); kernel_rfl; exact rfl; exact rfl; exact k2) | ((with_reducible apply At.box (d := 5)); exact rfl; exact rfl; exact rfl; intro b5) | ((with_reducible apply At.alloc (d := 7)); exact rfl; exact rfl; intro b7) | ((with_reducible apply At.alloc (d := 9)); exact rfl; exact rfl; intro b9) | (refine zsp ?_ ?_ <;> (intro hc; (try simp only [zhcs, reduceCtorEq] at hc); (try (exfalso; first | (first | omega | exact absurd rfl hc) | contradiction | omega | exact absurd rfl hc | exact absurd (by decide) hc))))))
  all_goals ((with_reducible apply At.retV (B := kb q K ⟨y.lab, e.T, po, pm, ⟨p2, c2, pl⟩, y.t0, y.t1, y.t2, ⟨i, ca⟩⟩)); exact rfl; (repeat' (first | exact RVs.nil | (with_reducible apply RVs.cons) | exact rv_tmp (by rfl) | exact rv_cellN (by rfl) (by repeat constructor) (by rfl) (by rfl) (by rfl) | exact rv_cell1 (by rfl) (by repeat constructor) (by rfl) (by rfl))); exact zml; exact zkp; exact ⟨rfl, p2, c2, rfl, sl9⟩)
theorem openY {m : Mem} {K : Cfg} {es : List Ev} {x : Ser} (h : SI K es x) (ho : x.Ok m) : Ct Tryz.prog 27 #[K.v, x.v] m [] (fun v m' B => m = m' ∧ ∃ q, v = .tuple #[pt q, .int .i64 0] ∧ B = kb q K x) :=
  Ct.mono (openS K x ho) fun v m' B _ ⟨h1, h2⟩ => ⟨h1, (h2.resolve_right fun k => k.1 h.sok).2⟩
/-- what Put leaves -/
theorem put_fin {m m' : Mem} {K : Cfg} {x : Ser} {es : List Ev} {e : Ev} {t : TT} {o : Slot} {p : Option Addr} {c : Nat} (h : SI K es x) (ho : x.Ok m) (hm : m.le m') (hG : Gr.Good (es ++ [e])) (hlen : es.length ≤ 1000000) (ht : t.Ok m')
    (hN : Inv K (es ++ [e]) t.ls ⟨e.T / K.a, Cell.add o.c e⟩) (sl : Sl m' Ev.cells 4 p c (Raw.putL x.lost x.mark x.raw.l K.r e)) :
    (⟨x.lab, e.T, Raw.putO x.lost x.mark x.raw.l K.r e, Raw.putM x.lost x.mark x.raw.l K.r e, ⟨p, c, Raw.putL x.lost x.mark x.raw.l K.r e⟩, t.a, t.b, t.c, ⟨e.T / K.a, Cell.add o.c e⟩⟩ : Ser).Ok m' ∧ SI K (es ++ [e]) (⟨x.lab, e.T, Raw.putO x.lost x.mark x.raw.l K.r e, Raw.putM x.lost x.mark x.raw.l K.r e, ⟨p, c, Raw.putL x.lost x.mark x.raw.l K.r e⟩, t.a, t.b, t.c, ⟨e.T / K.a, Cell.add o.c e⟩⟩ : Ser) := by
  have hr := h.raw.put (put_ok h hG hlen)
  have hev := (good_last hG).2.1
  have hK := h.inv.ok.hr
  have h1 := hev.1
  unfold Ev.ok at h1
  refine ⟨⟨ho.sl.mono hm, sl, ht.a.sl, ht.b.sl, ht.c.sl, ho.ml, ht.a.i, ht.b.i, ht.c.i, inn hN, fun a ha => ?_, ho.nl, ?_, ht.a.n, ht.b.n, ht.c.n, by show -9223372036854775808 ≤ e.T ∧ e.T ≤ 9223372036854775807; omega⟩, ⟨hN, ?_, hr, h.lab⟩⟩
  · have ha : a ∈ Raw.putL x.lost x.mark x.raw.l K.r e := ha
    rw [hr.dr] at ha
    exact (hG.1 a (List.mem_of_mem_drop ha)).2
  · have := hr.n
    show (Raw.putL x.lost x.mark x.raw.l K.r e).length ≤ 1000000
    omega
  · show e.T = _
    rw [if_neg (by simp), lastT_snoc]
theorem put_ {m : Mem} (K : Cfg) (x : Ser) (es : List Ev) (e : Ev) (h : SI K es x) (ho : x.Ok m) (hG : Gr.Good (es ++ [e])) (hlen : es.length ≤ 1000000) :
    Ct Tryz.prog 23 #[K.v, x.v, e.v] m [] (fun v m' B => B = [] ∧ ∃ y : Ser, v = .tuple #[y.v, .int .i64 0] ∧ y.Ok m' ∧ SI K (es ++ [e]) y ∧ y.lab = x.lab) := by
  have hev := (good_last hG).2.1
  have hlt := (good_last hG).2.2
  have k0 := fun (m' : Mem) (hm : m.le m') => openY h (ho.mono hm)
  have k1 := Ev.check e
  rw [show e.chk = 0 from if_pos hev.1] at k1
  have hT := hev.1
  unfold Ev.ok at hT
  have hKa := h.inv.ok.ha
  have hq : IntKind.wrap .i64 (e.T.tdiv K.a) = e.T / K.a := by
    have h2 := Int.ediv_nonneg (show 0 ≤ e.T by omega) (show 0 ≤ K.a by omega)
    have h3 := Int.ediv_le_self K.a (show 0 ≤ e.T by omega)
    rw [Int.tdiv_eq_ediv_of_nonneg (by omega)]
    exact IntWalk.i64_in _ (by omega)
  have hKn : K.a ≠ 0 := by omega
  have hll : x.last < e.T := by
    by_cases hn : es = []
    · rw [h.last, if_pos hn]; omega
    · rw [(h.pos hn).1, lastT_get hn]; exact hlt _ (List.getLast_mem hn)
  have k2 := fun (m' : Mem) (q : Nat) (hm : m.le m') => turn_ (m := m') q K x es e h (ho.mono hm) hG
  have k3 := fun (m' : Mem) (q : Nat) (t : TT) (o : Slot) (hm : m.le m') (ht : t.Ok m') (hio : Slot.In o) (ca : Cell.addE o.c e = (Cell.add o.c e, 0)) => add_ (m := m') q K ⟨x.lab, x.last, x.lost, x.mark, x.raw, t.a, t.b, t.c, o⟩ (e.T / K.a) e (okT (ho.mono hm) ht hio) hev.2 (put_ok (x := x) h hG hlen) ca
  have k4 := fun (m' : Mem) (t : TT) (o : Slot) p c (hm : m.le m') (ht : t.Ok m') (hN : Inv K (es ++ [e]) t.ls ⟨e.T / K.a, Cell.add o.c e⟩) (sl : Sl m' Ev.cells 4 p c (Raw.putL x.lost x.mark x.raw.l K.r e)) => put_fin (m' := m') h ho hm hG hlen ht hN sl
  dsimp only at k3
  clear hev hlt hT hKa h ho hG hlen
  generalize e.T / K.a = i at *
  generalize Raw.putO x.lost x.mark x.raw.l K.r e = po at *
  generalize Raw.putM x.lost x.mark x.raw.l K.r e = pm at *
  generalize Raw.putL x.lost x.mark x.raw.l K.r e = pl at *
  refine Ct.enterV (by rfl) Tryz.func23 rfl Tryz.ntmps23 rfl (fun w0 Rest => ?_)
  (repeat' (first | refine zss ?_ | ((first | (with_reducible first | apply At.val | apply AtQ.val)); (first | exact pr_indexArr (k := 0) (by rfl) (by rfl) (by rfl) (by rfl) (by decide) | exact pr_quo (by rfl) (by rfl) hKn hq); exact rfl) | refine zsM ?_ | ((with_reducible first | apply At.c1 | apply At.c0); exact rfl; exact rfl; exact k0 _ zml; exact ztk; kernel_rfl; rintro v' m' B' hm' ⟨rfl, q, rfl, rfl⟩; (try replace sl9 := sl9.mono hm'); (try (have hq0 : hm' = Mem.le_refl _ := rfl; clear hq0 hm'))) | ((with_reducible first | apply AtM1.callp | apply AtQ.callp | apply At.callp); kernel_rfl; exact rfl; exact rfl; exact k1) | ((with_reducible first | apply At.c1 | apply At.c0); exact rfl; exact rfl; exact k2 _ q zml; exact ztk; kernel_rfl; rintro v' m' B' hm' ⟨rfl, t, o, rfl, ht, hio, ca, hN⟩; (try replace sl9 := sl9.mono hm'); (try (have hq0 : hm' = Mem.le_refl _ := rfl; clear hq0 hm'))) | ((with_reducible first | apply At.c1 | apply At.c0); exact rfl; exact rfl; exact k3 _ q t o zml (ht.mono zml) hio ca; exact ztk; kernel_rfl; rintro v' m' B' hm' ⟨rfl, p2, c2, rfl, sl9⟩; (try replace sl9 := sl9.mono hm'); (try (have hq0 : hm' = Mem.le_refl _ := rfl; clear hq0 hm'))) | ((with_reducible apply At.box (d := 3)); exact rfl; exact rfl; exact rfl; intro b3) | ((with_reducible apply At.box (d := 4)); exact rfl; exact rfl; exact rfl; intro b4) | ((with_reducible apply At.box (d := 5)); exact rfl; exact rfl; exact rfl; intro b5) | ((with_reducible apply At.alloc (d := 6)); exact rfl; exact rfl; intro b6) | (refine zsp ?_ ?_ <;> (intro hc; (try simp only [zhcs, reduceCtorEq] at hc); (try (exfalso; first | omega | contradiction | omega | exact absurd rfl hc | exact absurd (by decide) hc))))))
  all_goals (obtain ⟨f1, f2⟩ := k4 _ t o p2 c2 zml (ht.mono zml) hN sl9)
  all_goals ((with_reducible apply At.retV (B := [])); exact rfl; (repeat' (first | exact RVs.nil | (with_reducible apply RVs.cons) | exact rv_tmp (by rfl) | exact rv_cellN (by rfl) (by repeat constructor) (by rfl) (by rfl) (by rfl) | exact rv_cell1 (by rfl) (by repeat constructor) (by rfl) (by rfl))); exact zml; exact zkp; exact ⟨rfl, _, rfl, f1, f2, rfl⟩)
end Sv
end Go.Proofs.YtjdlnckifhifbaaGreat
/- Stacks of tiers in plain words: going on in two steps comes to the same as in one. -/
set_option linter.unusedSimpArgs false
set_option linter.unusedVariables false
set_option linter.unusedSectionVars false
set_option maxRecDepth 20000
set_option maxHeartbeats 4000000
namespace Go.Proofs.YtjdlnckifhifbaaGreat
open Go Go.J
namespace Gr
open Cell Ti Fo
/-- all windows lie below -/
def Bel (l : List Slot) (x : Int) : Prop := ∀ s ∈ l, keep s = true → s.w < x
theorem foldC_none {l : List Slot} {o f : Int} (ho : 0 ≤ o) (hf : 0 ≤ f) (h : Bel l (o * f)) : foldC l (o * f) ((o + 1) * f) = (z, 0) := by
  have h1 : ¬ (o * f < 0 ∨ (o + 1) * f < o * f) := by
    have := Int.mul_nonneg ho hf
    rw [Int.add_mul, Int.one_mul]
    omega
  unfold foldC
  rw [if_neg h1]
  have e : (alls l).filter (fun s => decide (o * f ≤ s.w ∧ s.w < (o + 1) * f)) = [] := by
    rw [List.filter_eq_nil_iff]
    intro s hs
    obtain ⟨h2, h3⟩ := alls_mem.1 hs
    have := h s h2 h3
    rw [decide_eq_true_eq]
    omega
  rw [e]
  rfl
theorem upL_skip {K : Cfg} {k : Nat} {b l : List Slot} {i j : Int} (ho : 0 ≤ i * K.a / Kw K k) (hf : 0 ≤ Kw K k / Kw K (k - 1)) (h : Bel b (i * K.a / Kw K k * (Kw K k / Kw K (k - 1)))) : upL K k b l i j = l := by
  by_cases e : i * K.a / Kw K k = j * K.a / Kw K k
  · exact upL_same e
  · exact upL_no e (foldC_none ho hf h) (fun hh => absurd hh.2 (by show ¬ (0 : Int) < 0; decide))
theorem upL_from {K : Cfg} {k : Nat} {b l : List Slot} {w i j : Int} (h : w * K.a / Kw K k = i * K.a / Kw K k) : upL K k b l i j = upL K k b l w j := by
  unfold upL
  rw [h]
theorem upL_to {K : Cfg} {k : Nat} {b l : List Slot} {w i j : Int} (h1 : w * K.a / Kw K k ≠ i * K.a / Kw K k) (h2 : w * K.a / Kw K k ≠ j * K.a / Kw K k) : upL K k b l w i = upL K k b l w j := by
  unfold upL
  rw [if_neg h1, if_neg h2]
theorem putO_bel {l : List Slot} {w i x : Int} {c : Cell} (h : Bel l x) (hi : i < x) : Bel (putO l w i c) x := fun s hs ks => by
  unfold putO at hs
  split at hs
  · rcases List.mem_or_eq_of_mem_set hs with hs | rfl
    · exact h s hs ks
    · exact hi
  · exact absurd hs List.not_mem_nil
theorem upL_bel {K : Cfg} {k : Nat} {b l : List Slot} {i j x : Int} (h : Bel l x) (hx : i * K.a / Kw K k < x) : Bel (upL K k b l i j) x := by
  unfold upL
  split
  · exact h
  · split
    · split
      · exact putO_bel h hx
      · exact h
    · exact h
theorem Bel.le {l : List Slot} {x y : Int} (h : Bel l x) (hxy : x ≤ y) : Bel l y := fun s hs ks => by have := h s hs ks; omega
theorem lvl_div {w a f : Int} (ha : 0 < a) : w * a / (a * f) = w / f := by
  rw [Int.mul_comm w a, Int.mul_ediv_mul_of_pos _ _ ha]
theorem up_up {K : Cfg} {A B C : List Slot} {w i j : Int} (hK : K.ok) (hw : 0 ≤ w) (hwi : w < i) (hij : i ≤ j) (hA : Bel A (w + 1)) (hB : Bel B (w * K.a / K.b + 1)) :
    up K (up K ⟨A, B, C⟩ w i) i j = up K ⟨A, B, C⟩ w j := by
  have ha := hK.ha
  have hb := hK.hb
  obtain ⟨⟨f1, ef1, eb, g1, g2⟩, ⟨f2, ef2, ed, g3, g4⟩⟩ := cfg_f hK
  have d1 : ∀ x : Int, x * K.a / K.b = x / f1 := fun x => by rw [eb]; exact lvl_div (by omega)
  have d2 : ∀ x : Int, x * K.a / K.d = x * K.a / K.b / f2 := fun x => by rw [ed, div_div (by omega)]
  have mono : ∀ {x y f : Int}, x ≤ y → 1 ≤ f → x / f ≤ y / f := fun h hf => Int.ediv_le_ediv (by omega) h
  have hlt1 : w * K.a / K.b < i * K.a / K.b → Bel A (i * K.a / Kw K 1 * (Kw K 1 / Kw K (1 - 1))) := fun h => hA.le (by
    show w + 1 ≤ i * K.a / K.b * (K.b / K.a)
    rw [ef1]
    have h1 := Int.lt_ediv_add_one_mul_self w (show 0 < f1 by omega)
    rw [← d1] at h1
    have h2 : (w * K.a / K.b + 1) * f1 ≤ i * K.a / K.b * f1 := Int.mul_le_mul_of_nonneg_right (by omega) (by omega)
    omega)
  have p1 : 0 ≤ i * K.a / K.b := by rw [d1]; exact Int.ediv_nonneg (by omega) (by omega)
  have p2 : 0 ≤ i * K.a / K.d := by rw [d2]; exact Int.ediv_nonneg p1 (by omega)
  have m1 : w * K.a / K.b ≤ i * K.a / K.b := by rw [d1, d1]; exact mono (by omega) g1
  have m1' : i * K.a / K.b ≤ j * K.a / K.b := by rw [d1, d1]; exact mono (by omega) g1
  have m2 : w * K.a / K.d ≤ i * K.a / K.d := by rw [d2, d2]; exact mono m1 g3
  have m2' : i * K.a / K.d ≤ j * K.a / K.d := by rw [d2, d2]; exact mono m1' g3
  have claim1 : upL K 1 A (upL K 1 A B w i) i j = upL K 1 A B w j := by
    by_cases e : w * K.a / K.b = i * K.a / K.b
    · rw [upL_same (k := 1) (j := i) (i := w) (by exact e)]
      exact upL_from (k := 1) (by exact e)
    · rw [upL_to (k := 1) (w := w) (i := i) (j := j) (by exact e) (by show w * K.a / K.b ≠ j * K.a / K.b; omega)]
      exact upL_skip (k := 1) (by exact p1) (by show 0 ≤ K.b / K.a; omega) (hlt1 (by omega))
  have bji : w * K.a / K.b ≠ i * K.a / K.b → upL K 1 A B w i = upL K 1 A B w j := fun e => upL_to (k := 1) (by exact e) (by show w * K.a / K.b ≠ j * K.a / K.b; omega)
  have hBj : Bel (upL K 1 A B w j) (w * K.a / K.b + 1) := upL_bel (k := 1) hB (by show w * K.a / K.b < _; omega)
  unfold up
  dsimp only
  rw [claim1]
  have claim2 : upL K 2 (upL K 1 A B w j) (upL K 2 (upL K 1 A B w i) C w i) i j = upL K 2 (upL K 1 A B w j) C w j := by
    by_cases e : w * K.a / K.d = i * K.a / K.d
    · rw [upL_same (k := 2) (j := i) (i := w) (by exact e)]
      exact upL_from (k := 2) (by exact e)
    · have e1 : w * K.a / K.b ≠ i * K.a / K.b := fun h => e (by rw [d2, d2, h])
      rw [bji e1, upL_to (k := 2) (w := w) (i := i) (j := j) (by exact e) (by show w * K.a / K.d ≠ j * K.a / K.d; omega)]
      refine upL_skip (k := 2) (by exact p2) (by show 0 ≤ K.d / K.b; omega) (hBj.le ?_)
      show w * K.a / K.b + 1 ≤ i * K.a / K.d * (K.d / K.b)
      rw [ef2]
      have h1 := Int.lt_ediv_add_one_mul_self (w * K.a / K.b) (show 0 < f2 by omega)
      rw [← d2] at h1
      have h2 : (w * K.a / K.d + 1) * f2 ≤ i * K.a / K.d * f2 := Int.mul_le_mul_of_nonneg_right (by omega) (by omega)
      omega
  rw [claim2]
theorem fk_up {K : Cfg} {A B C : List Slot} {i j : Int} (h : fk K ⟨A, B, C⟩) : fk K (up K ⟨A, B, C⟩ i j) :=
  ⟨h.1, h.2.1, ⟨(by show ((upL K 1 A B i j).length : Int) = _; rw [upL_len]; exact h.2.2.1.1), upL_ok (k := 1) h.2.2.1.2⟩, ⟨(by show ((upL K 2 (upL K 1 A B i j) C i j).length : Int) = _; rw [upL_len]; exact h.2.2.2.1), upL_ok (k := 2) h.2.2.2.2⟩⟩
theorem fk_put {K : Cfg} {A B C : List Slot} {i : Int} {c : Cell} (h : fk K ⟨A, B, C⟩) (hf : fits c K.a i) : fk K ⟨putO A K.a i c, B, C⟩ := by
  have hp : putE A K.a i c = 0 := if_pos ⟨h.2.1.2, hf⟩
  exact ⟨h.1, ⟨by show ((putO A K.a i c).length : Int) = _; rw [putO_len hp]; exact h.2.1.1, putO_ok hp⟩, h.2.2⟩
theorem bgn_no {K : Cfg} {t : L3} {i j : Int} (h : bgn K.a j = false) : upE K t i j ≠ 0 := by
  unfold upE
  split
  · decide
  · rw [if_pos (.inr (.inr h))]; decide
/-- in two steps as in one -/
theorem Inv.skip {K : Cfg} {es : List Ev} {T : L3} {o : Slot} (h : Inv K es T o) {i j : Int} (hi : 0 ≤ i) (hij : i ≤ j) (hb : bgn K.a j = true) (ho : ¬ (0 < o.c.n ∧ i ≤ o.w)) :
    closeE K T o j = 0 ∧ closeE K T o i = 0 ∧ upE K (closeT K T o i) i j = 0 ∧ upT K (closeT K T o i) i j = closeT K T o j ∧ Fo.fk K (closeT K T o j) := by
  have ha := h.ok.ha
  have hupE : ∀ t, Fo.fk K t → upE K t i j = 0 := fun t ht => (if_neg (fun k => k ht)).trans (if_neg (fun k => by rcases k with k | k | k; omega; omega; rw [hb] at k; cases k))
  by_cases hn : es = []
  · have hz : o = Slot.z := h.op.trans (if_pos hn)
    have eE : ∀ x, closeE K T o x = 0 := fun x => (if_neg (fun k => k h.fk)).trans ((if_neg (fun k => k.1 hz)).trans (if_pos (.inl hz)))
    have eT : ∀ x, closeT K T o x = T := fun x => (if_neg (by rw [eE]; exact fun k => k rfl)).trans (if_pos (.inl hz))
    rw [eE, eE, eT, eT]
    refine ⟨rfl, rfl, hupE T h.fk, ?_, h.fk⟩
    have e0 : upT K T i j = up K T i j := if_neg (by rw [hupE T h.fk]; exact fun k => k rfl)
    rw [e0]
    obtain ⟨⟨f1, ef1, eb, g1, g2⟩, ⟨f2, ef2, ed, g3, g4⟩⟩ := cfg_f h.ok
    have none : ∀ {w n c : Int} {l : List Slot}, Lv w n es c l → ∀ x, Bel l x := fun {w n c l} hl x s hs ks => by
      have h1 := hl.snd s hs ks
      have h2 := hl.ok.2.2
      rw [hn] at h1
      have hG0 : s.c = z := h1.2
      have oks : s = Slot.z ∨ fits s.c w s.w := by
        obtain ⟨k, hk, ek⟩ := List.mem_iff_getElem.1 hs
        have := h2 k hk
        unfold okS at this
        rw [getElem!_pos _ k hk, ek] at this
        exact this.imp id And.right
      rcases oks with oks | oks
      · exact absurd oks (keep_ne.1 ks)
      · rw [hG0] at oks
        exact absurd rfl oks.1
    have pa : 0 ≤ i * K.a := Int.mul_nonneg hi (by omega)
    have hbb := h.ok.hb
    have hd := h.ok.hd
    have u1 : upL K 1 T.a T.b i j = T.b := upL_skip (k := 1) (Int.ediv_nonneg pa (by show 0 ≤ K.b; omega)) (by show 0 ≤ K.b / K.a; omega) (none h.a _)
    have u2 : upL K 2 T.b T.c i j = T.c := upL_skip (k := 2) (Int.ediv_nonneg pa (by show 0 ≤ K.d; omega)) (by show 0 ≤ K.d / K.b; omega) (none h.b _)
    unfold up
    rw [u1, u2]
  obtain ⟨eo, hfu, hfi, hz⟩ := h.open_ hn
  have hon : 0 < o.c.n := by have := hfu.n; omega
  have hwi : o.w < i := Int.not_le.1 fun k => ho ⟨hon, k⟩
  have how : o.w = lastT es / K.a := by rw [eo]
  have hbi : bgn K.a i = true := by
    have := of_decide_eq_true hb
    exact decide_eq_true ⟨hi, by omega⟩
  have eE : ∀ x, o.w < x → bgn K.a x = true → closeE K T o x = 0 ∧ closeT K T o x = up K ⟨putO T.a K.a o.w o.c, T.b, T.c⟩ o.w x := fun x hx hbx => by
    have e : closeE K T o x = 0 := (if_neg (fun k => k h.fk)).trans ((if_neg (fun k => k.2 hfi)).trans ((if_neg (fun k => k.elim hz (fun k => by omega))).trans (if_neg (fun k => k.elim (fun k => by omega) (fun k => by rw [hbx] at k; cases k)))))
    exact ⟨e, (if_neg (by rw [e]; exact fun k => k rfl)).trans (if_neg (fun k => k.elim hz (fun k => by omega)))⟩
  obtain ⟨ei, ti⟩ := eE i hwi hbi
  obtain ⟨ej, tj⟩ := eE j (by omega) hb
  have hfp : Fo.fk K ⟨putO T.a K.a o.w o.c, T.b, T.c⟩ := fk_put (A := T.a) (B := T.b) (C := T.c) h.fk hfi
  have hfi2 := fk_up (i := o.w) (j := i) hfp
  have hfj2 := fk_up (i := o.w) (j := j) hfp
  rw [ei, ej, ti, tj]
  refine ⟨rfl, rfl, hupE _ hfi2, ?_, hfj2⟩
  have e0 : ∀ t, Fo.fk K t → upT K t i j = up K t i j := fun t ht => if_neg (by rw [hupE t ht]; exact fun k => k rfl)
  rw [e0 _ hfi2]
  refine up_up h.ok (by rw [how]; exact Int.ediv_nonneg (last_bd h.g hn).1 (by omega)) hwi hij (putO_bel (fun s hs ks => ?_) (by omega)) (fun s hs ks => ?_)
  · have := (h.a.snd s hs ks).1
    omega
  · have := (h.b.snd s hs ks).1
    obtain ⟨⟨f1, ef1, eb, g1, g2⟩, -⟩ := cfg_f h.ok
    have e1 : o.w * K.a / K.b = lastT es / K.b := by rw [how, eb]; exact div_lvl (by omega)
    omega
theorem getC_mem {l : List Slot} {w i : Int} {c : Cell} (h : okT l w) (hm : (⟨i, c⟩ : Slot) ∈ l) (hi : 0 ≤ i) (hk : keep ⟨i, c⟩ = true) : getC l i = c := by
  obtain ⟨k, hkl, ek⟩ := List.mem_iff_getElem.1 hm
  have ek' : l[k]! = ⟨i, c⟩ := by rw [getElem!_pos l k hkl]; exact ek
  have oks := h.2.2 k hkl
  unfold okS at oks
  rw [ek'] at oks
  have e1 : Win.slotV i l.length = (k : Int) := (oks.resolve_left (keep_ne.1 hk)).1
  unfold getC
  rw [if_neg (by omega), e1, Int.toNat_natCast, ek', if_pos rfl]
end Gr
end Go.Proofs.YtjdlnckifhifbaaGreat
