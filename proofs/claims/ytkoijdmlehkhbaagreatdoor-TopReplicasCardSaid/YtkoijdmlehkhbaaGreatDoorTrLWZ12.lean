/- Part 12 of what the law's proof needs: rules of the walk, contracts of functions, plain laws. No condition. -/
import Derived.Test.YtkoijdmlehkhbaaGreatDoorTrLWZ11
set_option linter.unusedSimpArgs false
set_option linter.unusedVariables false
set_option linter.unusedSectionVars false
set_option maxRecDepth 20000
set_option maxHeartbeats 4000000
namespace Go.Proofs.YtkoijdmlehkhbaaGreatDoor
open Go Go.J
attribute [local irreducible] At AtQ AtM AtM1 PR Ct Pu Rd Res.blk Res.own Res.ex RVs RV RingE.R
namespace Raw
open Ev Mrg
open RingE (ptr R)
theorem ringLt {m : Mem} (b room : Nat) (cont l : List Ev) (i : Nat) (hc : cont = l.take i) (hi : i < l.length) (hl : l.length ≤ room) (hr : room ≤ 65536) :
    Ct Tryz.prog 171 #[ptr b, (l[i]!).v] m [R b room 0 cont] (fun v m' B => v = .tuple #[Ev.z.v, .bool false] ∧ m = m' ∧ B = [R b room 0 (l.take (i + 1))]) := by
  subst hc
  have hlen : (l.take i).length < room := by rw [List.length_take]; omega
  refine (RingE.ringPut b room 0 (l.take i) (l[i]!) (by omega) hr ⟨by omega, by omega⟩).mono fun v m' B _ ⟨h1, h2, h3⟩ => ⟨?_, h2, ?_⟩
  · rw [h1, if_pos hlen]
  · rw [h3, if_pos hlen, RingE.putC, if_pos hlen, List.take_add_one, getElem!_pos l i hi, List.getElem?_eq_getElem hi]; rfl
theorem open_ {m : Mem} (p : Option Addr) (c : Nat) (l : List Ev) (room : Nat) (h1 : 1 ≤ room) (h2 : room ≤ 4096) (hl : l.length ≤ room) (sl0 : Sl m cells 4 p c l) :
    Ct Tryz.prog 170 #[.slice p l.length c, .int .i64 (room : Int)] m [] (fun v m' B => m = m' ∧ ∃ b, v = .tuple #[ptr b, .int .i64 0] ∧ B = [R b room 0 l]) := by
  have hn : Ct Tryz.prog 205 #[.int .i64 (room : Int)] m [] (fun v m' B => m = m' ∧ ∃ b, v = .tuple #[ptr b, .int .i64 0] ∧ B = [R b room 0 []]) :=
    (RingE.ringNew (m := m) (room : Int) (by omega)).mono fun v m' B _ ⟨g1, g2⟩ => by
      rcases g2 with ⟨_, _, b, g3, g4⟩ | ⟨g3, _⟩
      · exact ⟨g1, b, g3, by rw [g4]; rfl⟩
      · omega
  refine Ct.enterV (by rfl) Tryz.func170 rfl Tryz.ntmps170 rfl (fun w0 Rest => ?_)
  (repeat' (first | refine zss ?_ | refine zsM ?_ | ((with_reducible first | apply At.c1 | apply At.c0); exact rfl; exact rfl; exact hn; exact ztk; kernel_rfl; rintro v' m' B' hm' ⟨rfl, b, rfl, rfl⟩; (try replace sl0 := sl0.mono hm'); (try (have hq0 : hm' = Mem.le_refl _ := rfl; clear hq0 hm'))) | ((with_reducible apply At.alloc (d := 9)); exact rfl; exact rfl; intro b9) | (refine zsp ?_ ?_ <;> (intro hc; (try simp only [zhcs, reduceCtorEq] at hc); (try (exfalso; first | contradiction | omega | exact absurd rfl hc | exact absurd (by decide) hc))))))
  (refine At.loopk (σ := Nat) [6, 18, 19] (fun s F0 => (20, .int .i64 (s : Int)) :: F0) (fun s => m) (fun s => R b room 0 (l.take s) :: Rest) (fun s => s ≤ l.length) (fun s => l.length - s) 0 (by rfl) ?_ zsubs zml zente ?_)
  · exact Nat.zero_le _
  rintro s hs
  by_cases h : s < l.length
  · (repeat' (first | refine zss ?_ | refine zsM ?_ | ((with_reducible first | apply At.c1 | apply At.c0); exact rfl; exact rfl; exact ringLt b room _ l s rfl h hl (by omega); exact ztk; kernel_rfl; rintro v' m' B' hm' ⟨rfl, rfl, rfl⟩; (try replace sl0 := sl0.mono hm'); (try (have hq0 : hm' = Mem.le_refl _ := rfl; clear hq0 hm'))) | ((with_reducible apply At.alloc (d := 9)); exact rfl; exact rfl; intro b9) | (refine zsp ?_ ?_ <;> (intro hc; (try simp only [zhcs, reduceCtorEq] at hc); (try (exfalso; first | omega | contradiction | omega | exact absurd rfl hc | exact absurd (by decide) hc))))))
    all_goals ((with_reducible refine At.reachk ((s + 1)) ?_ ?_ ?_ ?_); exact zsubs; exact zml; exact zente; exact ⟨h, by omega⟩)
  · rw [show l.take s = l from List.take_of_length_le (by omega)]
    (repeat' (first | refine zss ?_ | refine zsM ?_ | ((with_reducible apply At.alloc (d := 9)); exact rfl; exact rfl; intro b9) | (refine zsp ?_ ?_ <;> (intro hc; (try simp only [zhcs, reduceCtorEq] at hc); (try (exfalso; first | omega | contradiction | omega | exact absurd rfl hc | exact absurd (by decide) hc))))))
    all_goals ((with_reducible apply At.retB2 (B := [R b room 0 l])); (iterate 3 exact rfl); exact zml; exact zkp; exact ⟨rfl, _, rfl, rfl⟩)
/-- what one more makes -/
def putE (lost mark : Int) (l : List Ev) (room : Int) (e : Ev) : Int :=
  if rk lost mark l room ∧ e.ok then (if l.length ≠ 0 ∧ ¬ (lastV l).T < e.T then 9 else if (l.length : Int) = room ∧ lost = 70368744177664 then 1 else 0) else 2
def putO (lost mark : Int) (l : List Ev) (room : Int) (e : Ev) : Int := if putE lost mark l room e = 0 then (if (l.length : Int) < room then lost else lost + 1) else 0
def putM (lost mark : Int) (l : List Ev) (room : Int) (e : Ev) : Int := if putE lost mark l room e = 0 then (if (l.length : Int) < room then mark else (l[0]!).T) else 0
def putL (lost mark : Int) (l : List Ev) (room : Int) (e : Ev) : List Ev := if putE lost mark l room e = 0 then (if (l.length : Int) < room then l ++ [e] else l.drop 1 ++ [e]) else []
/-- raw events, that stay, and an error -/
def PostR (lost mark : Int) (l : List Ev) (w : Int) : Value → Mem → List Res → Prop := fun v m' B => B = [] ∧ ∃ p c, v = .tuple #[rv lost mark p l.length c, .int .i64 w] ∧ Sl m' cells 4 p c l
theorem postr {g : FuncId} {args : Array Value} {m : Mem} {A : List Res} {o o' k k' : Int} {l l' : List Ev} {w w' : Int} (h : Ct Tryz.prog g args m A (PostR o k l w)) (e1 : o = o') (e2 : k = k') (e3 : l = l') (e4 : w = w') : Ct Tryz.prog g args m A (PostR o' k' l' w') := by
  subst e1 e2 e3 e4; exact h
theorem puterr {g : FuncId} {args : Array Value} {m : Mem} {A : List Res} {lost mark : Int} {l : List Ev} {room : Int} {e : Ev} {w : Int} (hE : putE lost mark l room e = w) (hw : w ≠ 0) (h : Ct Tryz.prog g args m A (PostR 0 0 [] w)) :
    Ct Tryz.prog g args m A (PostR (putO lost mark l room e) (putM lost mark l room e) (putL lost mark l room e) (putE lost mark l room e)) :=
  postr h (by unfold putO; rw [if_neg (by rw [hE]; exact hw)]) (by unfold putM; rw [if_neg (by rw [hE]; exact hw)]) (by unfold putL; rw [if_neg (by rw [hE]; exact hw)]) hE.symm
theorem lastV_ok {l : List Ev} (h : aok l) (hn : l.length ≠ 0) : (lastV l).ok := by
  unfold lastV; rw [if_neg hn]; exact h _ (by omega)
theorem put {m : Mem} (lost mark : Int) (p : Option Addr) (c : Nat) (l : List Ev) (room : Int) (e : Ev) (hl : l.length ≤ 1000000) (sl0 : Sl m cells 4 p c l) :
    Ct Tryz.prog 120 #[rv lost mark p l.length c, .int .i64 room, e.v] m [] (PostR (putO lost mark l room e) (putM lost mark l room e) (putL lost mark l room e) (putE lost mark l room e)) := by
  have hk : ∀ m', m.le m' → Rd Tryz.prog 116 #[rv lost mark p l.length c, .int .i64 room] m' [] (.int .i64 (chkR lost mark l room)) := fun m' hm => check lost mark p c l room hl (sl0.mono hm)
  have hj := Ev.check e
  have hf := Ev.follow (lastV l) e
  have hla : ∀ m', m.le m' → Rd Tryz.prog 164 #[rv lost mark p l.length c] m' [] (.tuple #[(lastV l).v, .int .i64 (lastE l)]) := fun m' hm => last lost mark p c l hl (sl0.mono hm)
  by_cases h1 : rk lost mark l room
  · rw [show chkR lost mark l room = 0 from if_pos h1] at hk
    by_cases h2 : e.ok
    · rw [show e.chk = 0 from if_pos h2] at hj
      by_cases h3 : l.length ≠ 0 ∧ ¬ (lastV l).T < e.T
      · refine puterr (w := 9) (by unfold putE; rw [if_pos ⟨h1, h2⟩, if_pos h3]) (by decide) ?_
        rw [show lastE l = 0 from if_neg h3.1] at hla
        rw [show fol (lastV l) e = false by unfold fol; rw [decide_eq_false h3.2, Bool.and_false]] at hf
        refine Ct.enterV (by rfl) Tryz.func120 rfl Tryz.ntmps120 rfl (fun w0 Rest => ?_)
        (repeat' (first | refine zss ?_ | refine zsM ?_ | ((with_reducible first | apply AtM1.cr | apply AtQ.cr | apply At.cr); exact rfl; exact rfl; exact fun _ hmm => hk _ hmm; exact ztk; kernel_rfl) | ((with_reducible first | apply AtM1.callp | apply AtQ.callp | apply At.callp); kernel_rfl; exact rfl; exact rfl; exact hj) | ((with_reducible first | apply AtM1.cr | apply AtQ.cr | apply At.cr); exact rfl; exact rfl; exact fun _ hmm => hla _ hmm; exact ztk; kernel_rfl) | ((with_reducible first | apply AtM1.callp | apply AtQ.callp | apply At.callp); kernel_rfl; exact rfl; exact rfl; exact hf) | ((with_reducible apply At.box (d := 3)); exact rfl; exact rfl; exact rfl; intro b3) | ((with_reducible apply At.box (d := 5)); exact rfl; exact rfl; exact rfl; intro b5) | ((with_reducible apply At.alloc (d := 6)); exact rfl; exact rfl; intro b6) | ((with_reducible apply At.alloc (d := 8)); exact rfl; exact rfl; intro b8) | ((with_reducible apply At.alloc (d := 11)); exact rfl; exact rfl; intro b11) | (refine zsp ?_ ?_ <;> (intro hc; (try simp only [zhcs, reduceCtorEq] at hc); (try (exfalso; first | omega | contradiction | omega | exact absurd rfl hc | exact absurd (by decide) hc))))))
        all_goals ((with_reducible apply At.retV (B := [])); exact rfl; (repeat' (first | exact RVs.nil | (with_reducible apply RVs.cons) | exact rv_tmp (by rfl) | exact rv_cellN (by rfl) (by repeat constructor) (by rfl) (by rfl) (by rfl) | exact rv_cell1 (by rfl) (by repeat constructor) (by rfl) (by rfl))); exact zml; exact zkp; exact ⟨rfl, none, 0, rfl, Sl.empty _ inferInstance⟩)
      · have hF : ∀ (q : Bool), lastE l = 0 → fol (lastV l) e = true := fun q hq => by
          have hn : l.length ≠ 0 := fun h => by unfold lastE at hq; rw [if_pos h] at hq; cases hq
          unfold fol
          rw [decide_eq_true (show two (lastV l) e from ⟨lastV_ok h1.2.1.1 hn, h2⟩), decide_eq_true (show (lastV l).T < e.T by
            by_cases h4 : (lastV l).T < e.T
            · exact h4
            · exact absurd ⟨hn, h4⟩ h3)]; rfl
        by_cases h4 : (l.length : Int) = room ∧ lost = 70368744177664
        · refine puterr (w := 1) (by unfold putE; rw [if_pos ⟨h1, h2⟩, if_neg h3, if_pos h4]) (by decide) ?_
          by_cases h0 : lastE l = 0
          · rw [hF true h0] at hf
            rw [h0] at hla
            refine Ct.enterV (by rfl) Tryz.func120 rfl Tryz.ntmps120 rfl (fun w0 Rest => ?_)
            (repeat' (first | refine zss ?_ | refine zsM ?_ | ((with_reducible first | apply AtM1.cr | apply AtQ.cr | apply At.cr); exact rfl; exact rfl; exact fun _ hmm => hk _ hmm; exact ztk; kernel_rfl) | ((with_reducible first | apply AtM1.callp | apply AtQ.callp | apply At.callp); kernel_rfl; exact rfl; exact rfl; exact hj) | ((with_reducible first | apply AtM1.cr | apply AtQ.cr | apply At.cr); exact rfl; exact rfl; exact fun _ hmm => hla _ hmm; exact ztk; kernel_rfl) | ((with_reducible first | apply AtM1.callp | apply AtQ.callp | apply At.callp); kernel_rfl; exact rfl; exact rfl; exact hf) | ((with_reducible apply At.box (d := 3)); exact rfl; exact rfl; exact rfl; intro b3) | ((with_reducible apply At.box (d := 5)); exact rfl; exact rfl; exact rfl; intro b5) | ((with_reducible apply At.alloc (d := 6)); exact rfl; exact rfl; intro b6) | ((with_reducible apply At.alloc (d := 8)); exact rfl; exact rfl; intro b8) | ((with_reducible apply At.alloc (d := 11)); exact rfl; exact rfl; intro b11) | (refine zsp ?_ ?_ <;> (intro hc; (try simp only [zhcs, reduceCtorEq] at hc); (try (exfalso; first | omega | contradiction | omega | exact absurd rfl hc | exact absurd (by decide) hc))))))
            all_goals ((with_reducible apply At.retV (B := [])); exact rfl; (repeat' (first | exact RVs.nil | (with_reducible apply RVs.cons) | exact rv_tmp (by rfl) | exact rv_cellN (by rfl) (by repeat constructor) (by rfl) (by rfl) (by rfl) | exact rv_cell1 (by rfl) (by repeat constructor) (by rfl) (by rfl))); exact zml; exact zkp; exact ⟨rfl, none, 0, rfl, Sl.empty _ inferInstance⟩)
          · rw [show lastE l = 3 by unfold lastE at h0 ⊢; split at h0 <;> simp_all] at hla
            refine Ct.enterV (by rfl) Tryz.func120 rfl Tryz.ntmps120 rfl (fun w0 Rest => ?_)
            (repeat' (first | refine zss ?_ | refine zsM ?_ | ((with_reducible first | apply AtM1.cr | apply AtQ.cr | apply At.cr); exact rfl; exact rfl; exact fun _ hmm => hk _ hmm; exact ztk; kernel_rfl) | ((with_reducible first | apply AtM1.callp | apply AtQ.callp | apply At.callp); kernel_rfl; exact rfl; exact rfl; exact hj) | ((with_reducible first | apply AtM1.cr | apply AtQ.cr | apply At.cr); exact rfl; exact rfl; exact fun _ hmm => hla _ hmm; exact ztk; kernel_rfl) | ((with_reducible first | apply AtM1.callp | apply AtQ.callp | apply At.callp); kernel_rfl; exact rfl; exact rfl; exact hf) | ((with_reducible apply At.box (d := 3)); exact rfl; exact rfl; exact rfl; intro b3) | ((with_reducible apply At.box (d := 5)); exact rfl; exact rfl; exact rfl; intro b5) | ((with_reducible apply At.alloc (d := 6)); exact rfl; exact rfl; intro b6) | ((with_reducible apply At.alloc (d := 8)); exact rfl; exact rfl; intro b8) | ((with_reducible apply At.alloc (d := 11)); exact rfl; exact rfl; intro b11) | (refine zsp ?_ ?_ <;> (intro hc; (try simp only [zhcs, reduceCtorEq] at hc); (try (exfalso; first | omega | contradiction | omega | exact absurd rfl hc | exact absurd (by decide) hc))))))
            all_goals ((with_reducible apply At.retV (B := [])); exact rfl; (repeat' (first | exact RVs.nil | (with_reducible apply RVs.cons) | exact rv_tmp (by rfl) | exact rv_cellN (by rfl) (by repeat constructor) (by rfl) (by rfl) (by rfl) | exact rv_cell1 (by rfl) (by repeat constructor) (by rfl) (by rfl))); exact zml; exact zkp; exact ⟨rfl, none, 0, rfl, Sl.empty _ inferInstance⟩)
        · have hE : putE lost mark l room e = 0 := by unfold putE; rw [if_pos ⟨h1, h2⟩, if_neg h3, if_neg h4]
          obtain ⟨hb, hr, hm⟩ := h1
          obtain ⟨b1, b2, b3, b4, b5⟩ := hb
          obtain ⟨n, rfl⟩ : ∃ n : Nat, room = n := ⟨room.toNat, by omega⟩
          have ho := open_ (m := m) p c l n (by omega) (by omega) (by omega) sl0
          have hA := fun (m : Mem) b lost cont => RingE.ringAll (m := m) b n lost cont (by omega)
          by_cases h5 : (l.length : Int) < n
          · refine postr (o := lost) (k := mark) (l := l ++ [e]) (w := 0) ?_ (by unfold putO; rw [if_pos hE, if_pos h5]) (by unfold putM; rw [if_pos hE, if_pos h5]) (by unfold putL; rw [if_pos hE, if_pos h5]) hE.symm
            have hP : ∀ b, Ct Tryz.prog 171 #[ptr b, e.v] m [R b n 0 l] (fun v m' B => v = .tuple #[Ev.z.v, .bool false] ∧ m = m' ∧ B = [R b n 0 (l ++ [e])]) := fun b =>
              (RingE.ringPut b n 0 l e (by omega) (by omega) ⟨by omega, by omega⟩).mono fun v m' B _ ⟨g1, g2, g3⟩ => ⟨by rw [g1, if_pos (by omega)], g2, by rw [g3, if_pos (by omega), RingE.putC, if_pos (by omega)]⟩
            by_cases h0 : lastE l = 0
            · rw [hF true h0] at hf
              rw [h0] at hla
              refine Ct.enterV (by rfl) Tryz.func120 rfl Tryz.ntmps120 rfl (fun w0 Rest => ?_)
              (repeat' (first | refine zss ?_ | refine zsM ?_ | ((with_reducible first | apply AtM1.cr | apply AtQ.cr | apply At.cr); exact rfl; exact rfl; exact fun _ hmm => hk _ hmm; exact ztk; kernel_rfl) | ((with_reducible first | apply AtM1.callp | apply AtQ.callp | apply At.callp); kernel_rfl; exact rfl; exact rfl; exact hj) | ((with_reducible first | apply AtM1.cr | apply AtQ.cr | apply At.cr); exact rfl; exact rfl; exact fun _ hmm => hla _ hmm; exact ztk; kernel_rfl) | ((with_reducible first | apply AtM1.callp | apply AtQ.callp | apply At.callp); kernel_rfl; exact rfl; exact rfl; exact hf) | ((with_reducible first | apply At.c1 | apply At.c0); exact rfl; exact rfl; exact ho; exact ztk; kernel_rfl; rintro v' m' B' hm' ⟨rfl, b, rfl, rfl⟩; (try replace sl0 := sl0.mono hm'); (try replace sl1 := sl1.mono hm'); (try (have hq0 : hm' = Mem.le_refl _ := rfl; clear hq0 hm'))) | ((with_reducible first | apply At.c1 | apply At.c0); exact rfl; exact rfl; exact hP _; exact ztk; kernel_rfl; rintro v' m' B' hm' ⟨rfl, rfl, rfl⟩; (try replace sl0 := sl0.mono hm'); (try replace sl1 := sl1.mono hm'); (try (have hq0 : hm' = Mem.le_refl _ := rfl; clear hq0 hm'))) | ((with_reducible first | apply At.c1 | apply At.c0); exact rfl; exact rfl; exact hA _ b 0 (l ++ [e]); exact ztk; kernel_rfl; rintro v' m' B' hm' ⟨rfl, p2, c2, rfl, rfl⟩; (try replace sl0 := sl0.mono hm'); (try replace sl1 := sl1.mono hm'); (try (have hq0 : hm' = Mem.le_refl _ := rfl; clear hq0 hm'))) | ((with_reducible apply At.box (d := 3)); exact rfl; exact rfl; exact rfl; intro b3) | ((with_reducible apply At.box (d := 5)); exact rfl; exact rfl; exact rfl; intro b5) | ((with_reducible apply At.alloc (d := 6)); exact rfl; exact rfl; intro b6) | ((with_reducible apply At.alloc (d := 8)); exact rfl; exact rfl; intro b8) | ((with_reducible apply At.alloc (d := 11)); exact rfl; exact rfl; intro b11) | (refine zsp ?_ ?_ <;> (intro hc; (try simp only [zhcs, reduceCtorEq] at hc); (try (exfalso; first | omega | contradiction | omega | exact absurd rfl hc | exact absurd (by decide) hc))))))
              all_goals (refine At.own_freeze inferInstance (by repeat constructor) fun m' hm' sl1 => ?_; (try replace sl0 := sl0.mono hm'))
              all_goals ((with_reducible apply At.retV (B := [])); exact rfl; (repeat' (first | exact RVs.nil | (with_reducible apply RVs.cons) | exact rv_tmp (by rfl) | exact rv_cellN (by rfl) (by repeat constructor) (by rfl) (by rfl) (by rfl) | exact rv_cell1 (by rfl) (by repeat constructor) (by rfl) (by rfl))); exact zml; exact zkp; exact ⟨rfl, _, _, rfl, sl1⟩)
            · rw [show lastE l = 3 by unfold lastE at h0 ⊢; split at h0 <;> simp_all] at hla
              refine Ct.enterV (by rfl) Tryz.func120 rfl Tryz.ntmps120 rfl (fun w0 Rest => ?_)
              (repeat' (first | refine zss ?_ | refine zsM ?_ | ((with_reducible first | apply AtM1.cr | apply AtQ.cr | apply At.cr); exact rfl; exact rfl; exact fun _ hmm => hk _ hmm; exact ztk; kernel_rfl) | ((with_reducible first | apply AtM1.callp | apply AtQ.callp | apply At.callp); kernel_rfl; exact rfl; exact rfl; exact hj) | ((with_reducible first | apply AtM1.cr | apply AtQ.cr | apply At.cr); exact rfl; exact rfl; exact fun _ hmm => hla _ hmm; exact ztk; kernel_rfl) | ((with_reducible first | apply AtM1.callp | apply AtQ.callp | apply At.callp); kernel_rfl; exact rfl; exact rfl; exact hf) | ((with_reducible first | apply At.c1 | apply At.c0); exact rfl; exact rfl; exact ho; exact ztk; kernel_rfl; rintro v' m' B' hm' ⟨rfl, b, rfl, rfl⟩; (try replace sl0 := sl0.mono hm'); (try replace sl1 := sl1.mono hm'); (try (have hq0 : hm' = Mem.le_refl _ := rfl; clear hq0 hm'))) | ((with_reducible first | apply At.c1 | apply At.c0); exact rfl; exact rfl; exact hP _; exact ztk; kernel_rfl; rintro v' m' B' hm' ⟨rfl, rfl, rfl⟩; (try replace sl0 := sl0.mono hm'); (try replace sl1 := sl1.mono hm'); (try (have hq0 : hm' = Mem.le_refl _ := rfl; clear hq0 hm'))) | ((with_reducible first | apply At.c1 | apply At.c0); exact rfl; exact rfl; exact hA _ b 0 (l ++ [e]); exact ztk; kernel_rfl; rintro v' m' B' hm' ⟨rfl, p2, c2, rfl, rfl⟩; (try replace sl0 := sl0.mono hm'); (try replace sl1 := sl1.mono hm'); (try (have hq0 : hm' = Mem.le_refl _ := rfl; clear hq0 hm'))) | ((with_reducible apply At.box (d := 3)); exact rfl; exact rfl; exact rfl; intro b3) | ((with_reducible apply At.box (d := 5)); exact rfl; exact rfl; exact rfl; intro b5) | ((with_reducible apply At.alloc (d := 6)); exact rfl; exact rfl; intro b6) | ((with_reducible apply At.alloc (d := 8)); exact rfl; exact rfl; intro b8) | ((with_reducible apply At.alloc (d := 11)); exact rfl; exact rfl; intro b11) | (refine zsp ?_ ?_ <;> (intro hc; (try simp only [zhcs, reduceCtorEq] at hc); (try (exfalso; first | omega | contradiction | omega | exact absurd rfl hc | exact absurd (by decide) hc))))))
              all_goals (refine At.own_freeze inferInstance (by repeat constructor) fun m' hm' sl1 => ?_; (try replace sl0 := sl0.mono hm'))
              all_goals ((with_reducible apply At.retV (B := [])); exact rfl; (repeat' (first | exact RVs.nil | (with_reducible apply RVs.cons) | exact rv_tmp (by rfl) | exact rv_cellN (by rfl) (by repeat constructor) (by rfl) (by rfl) (by rfl) | exact rv_cell1 (by rfl) (by repeat constructor) (by rfl) (by rfl))); exact zml; exact zkp; exact ⟨rfl, _, _, rfl, sl1⟩)
          · refine postr (o := lost + 1) (k := (l[0]!).T) (l := l.drop 1 ++ [e]) (w := 0) ?_ (by unfold putO; rw [if_pos hE, if_neg h5]) (by unfold putM; rw [if_pos hE, if_neg h5]) (by unfold putL; rw [if_pos hE, if_neg h5]) hE.symm
            have hP : ∀ b, Ct Tryz.prog 171 #[ptr b, e.v] m [R b n 0 l] (fun v m' B => v = .tuple #[(l[0]!).v, .bool true] ∧ m = m' ∧ B = [R b n 1 (l.drop 1 ++ [e])]) := fun b =>
              (RingE.ringPut b n 0 l e (by omega) (by omega) ⟨by omega, by omega⟩).mono fun v m' B _ ⟨g1, g2, g3⟩ => ⟨by rw [g1, if_neg (by omega)], g2, by rw [g3, if_neg (by omega), RingE.putC, if_neg (by omega)]; rfl⟩
            have h0 : lastE l = 0 := if_neg (by omega)
            rw [hF true h0] at hf
            rw [h0] at hla
            refine Ct.enterV (by rfl) Tryz.func120 rfl Tryz.ntmps120 rfl (fun w0 Rest => ?_)
            (repeat' (first | refine zss ?_ | refine zsM ?_ | ((with_reducible first | apply AtM1.cr | apply AtQ.cr | apply At.cr); exact rfl; exact rfl; exact fun _ hmm => hk _ hmm; exact ztk; kernel_rfl) | ((with_reducible first | apply AtM1.callp | apply AtQ.callp | apply At.callp); kernel_rfl; exact rfl; exact rfl; exact hj) | ((with_reducible first | apply AtM1.cr | apply AtQ.cr | apply At.cr); exact rfl; exact rfl; exact fun _ hmm => hla _ hmm; exact ztk; kernel_rfl) | ((with_reducible first | apply AtM1.callp | apply AtQ.callp | apply At.callp); kernel_rfl; exact rfl; exact rfl; exact hf) | ((with_reducible first | apply At.c1 | apply At.c0); exact rfl; exact rfl; exact ho; exact ztk; kernel_rfl; rintro v' m' B' hm' ⟨rfl, b, rfl, rfl⟩; (try replace sl0 := sl0.mono hm'); (try replace sl1 := sl1.mono hm'); (try (have hq0 : hm' = Mem.le_refl _ := rfl; clear hq0 hm'))) | ((with_reducible first | apply At.c1 | apply At.c0); exact rfl; exact rfl; exact hP _; exact ztk; kernel_rfl; rintro v' m' B' hm' ⟨rfl, rfl, rfl⟩; (try replace sl0 := sl0.mono hm'); (try replace sl1 := sl1.mono hm'); (try (have hq0 : hm' = Mem.le_refl _ := rfl; clear hq0 hm'))) | ((with_reducible first | apply At.c1 | apply At.c0); exact rfl; exact rfl; exact hA _ b 1 (l.drop 1 ++ [e]); exact ztk; kernel_rfl; rintro v' m' B' hm' ⟨rfl, p2, c2, rfl, rfl⟩; (try replace sl0 := sl0.mono hm'); (try replace sl1 := sl1.mono hm'); (try (have hq0 : hm' = Mem.le_refl _ := rfl; clear hq0 hm'))) | ((with_reducible apply At.box (d := 3)); exact rfl; exact rfl; exact rfl; intro b3) | ((with_reducible apply At.box (d := 5)); exact rfl; exact rfl; exact rfl; intro b5) | ((with_reducible apply At.alloc (d := 6)); exact rfl; exact rfl; intro b6) | ((with_reducible apply At.alloc (d := 8)); exact rfl; exact rfl; intro b8) | ((with_reducible apply At.alloc (d := 11)); exact rfl; exact rfl; intro b11) | (refine zsp ?_ ?_ <;> (intro hc; (try simp only [zhcs, reduceCtorEq] at hc); (try (exfalso; first | omega | contradiction | omega | exact absurd rfl hc | exact absurd (by decide) hc))))))
            all_goals (refine At.own_freeze inferInstance (by repeat constructor) fun m' hm' sl1 => ?_; (try replace sl0 := sl0.mono hm'))
            all_goals ((with_reducible apply At.retV (B := [])); exact rfl; (repeat' (first | exact RVs.nil | (with_reducible apply RVs.cons) | exact rv_tmp (by rfl) | exact rv_cellN (by rfl) (by repeat constructor) (by rfl) (by rfl) (by rfl) | exact rv_cell1 (by rfl) (by repeat constructor) (by rfl) (by rfl))); exact zml; exact zkp; exact ⟨rfl, _, _, rfl, sl1⟩)
    · rw [show e.chk = 2 from if_neg h2] at hj
      refine puterr (w := 2) (by unfold putE; rw [if_neg fun h => h2 h.2]) (by decide) ?_
      refine Ct.enterV (by rfl) Tryz.func120 rfl Tryz.ntmps120 rfl (fun w0 Rest => ?_)
      (repeat' (first | refine zss ?_ | refine zsM ?_ | ((with_reducible first | apply AtM1.cr | apply AtQ.cr | apply At.cr); exact rfl; exact rfl; exact fun _ hmm => hk _ hmm; exact ztk; kernel_rfl) | ((with_reducible first | apply AtM1.callp | apply AtQ.callp | apply At.callp); kernel_rfl; exact rfl; exact rfl; exact hj) | ((with_reducible apply At.box (d := 3)); exact rfl; exact rfl; exact rfl; intro b3) | ((with_reducible apply At.box (d := 5)); exact rfl; exact rfl; exact rfl; intro b5) | ((with_reducible apply At.alloc (d := 6)); exact rfl; exact rfl; intro b6) | ((with_reducible apply At.alloc (d := 8)); exact rfl; exact rfl; intro b8) | ((with_reducible apply At.alloc (d := 11)); exact rfl; exact rfl; intro b11) | (refine zsp ?_ ?_ <;> (intro hc; (try simp only [zhcs, reduceCtorEq] at hc); (try (exfalso; first | omega | contradiction | omega | exact absurd rfl hc | exact absurd (by decide) hc))))))
      all_goals ((with_reducible apply At.retV (B := [])); exact rfl; (repeat' (first | exact RVs.nil | (with_reducible apply RVs.cons) | exact rv_tmp (by rfl) | exact rv_cellN (by rfl) (by repeat constructor) (by rfl) (by rfl) (by rfl) | exact rv_cell1 (by rfl) (by repeat constructor) (by rfl) (by rfl))); exact zml; exact zkp; exact ⟨rfl, none, 0, rfl, Sl.empty _ inferInstance⟩)
  · rw [show chkR lost mark l room = 2 from if_neg h1] at hk
    refine puterr (w := 2) (by unfold putE; rw [if_neg fun h => h1 h.1]) (by decide) ?_
    refine Ct.enterV (by rfl) Tryz.func120 rfl Tryz.ntmps120 rfl (fun w0 Rest => ?_)
    (repeat' (first | refine zss ?_ | refine zsM ?_ | ((with_reducible first | apply AtM1.cr | apply AtQ.cr | apply At.cr); exact rfl; exact rfl; exact fun _ hmm => hk _ hmm; exact ztk; kernel_rfl) | ((with_reducible apply At.box (d := 3)); exact rfl; exact rfl; exact rfl; intro b3) | ((with_reducible apply At.box (d := 5)); exact rfl; exact rfl; exact rfl; intro b5) | ((with_reducible apply At.alloc (d := 6)); exact rfl; exact rfl; intro b6) | ((with_reducible apply At.alloc (d := 8)); exact rfl; exact rfl; intro b8) | ((with_reducible apply At.alloc (d := 11)); exact rfl; exact rfl; intro b11) | (refine zsp ?_ ?_ <;> (intro hc; (try simp only [zhcs, reduceCtorEq] at hc); (try (exfalso; first | omega | contradiction | omega | exact absurd rfl hc | exact absurd (by decide) hc))))))
    all_goals ((with_reducible apply At.retV (B := [])); exact rfl; (repeat' (first | exact RVs.nil | (with_reducible apply RVs.cons) | exact rv_tmp (by rfl) | exact rv_cellN (by rfl) (by repeat constructor) (by rfl) (by rfl) (by rfl) | exact rv_cell1 (by rfl) (by repeat constructor) (by rfl) (by rfl))); exact zml; exact zkp; exact ⟨rfl, none, 0, rfl, Sl.empty _ inferInstance⟩)
end Raw
end Go.Proofs.YtkoijdmlehkhbaaGreatDoor
namespace Go.Proofs.YtkoijdmlehkhbaaGreatDoor
open Go Go.J
attribute [local irreducible] At AtQ AtM AtM1 PR Ct Pu Rd Res.blk Res.own Res.ex RVs RV
namespace Raw
open Ev Mrg
def keep (a b : Int) (e : Ev) : Bool := decide (a ≤ e.T ∧ e.T < b)
end Raw
end Go.Proofs.YtkoijdmlehkhbaaGreatDoor
namespace Go.Proofs.YtkoijdmlehkhbaaGreatDoor
open Go Go.J
attribute [local irreducible] At AtQ AtM AtM1 PR Ct Pu Rd Res.blk Res.own Res.ex RVs RV
namespace Raw
open Ev Mrg
def rgE (lost mark a b : Int) : Int := if b ≤ a then 1 else if 0 < lost ∧ a ≤ mark then 11 else 0
def rgL (lost mark : Int) (l : List Ev) (a b : Int) : List Ev := if rgE lost mark a b = 0 then l.filter (keep a b) else []
end Raw
end Go.Proofs.YtkoijdmlehkhbaaGreatDoor
namespace Go.Proofs.YtkoijdmlehkhbaaGreatDoor
open Go Go.J
attribute [local irreducible] At AtQ AtM AtM1 PR Ct Pu Rd Res.blk Res.own Res.ex RVs RV
namespace Raw
open Ev Mrg
theorem ris_iff {l : List Ev} : ris l ↔ (∀ e ∈ l, e.ok) ∧ Asc l := ⟨fun h => ⟨aok_iff.1 h.1, asc_of h.2⟩, fun h => ⟨aok_iff.2 h.1, asc_to h.2⟩⟩
theorem lastV_mem {l : List Ev} (h : l.length ≠ 0) : lastV l = l[l.length - 1]! ∧ lastV l ∈ l := by
  have e : lastV l = l[l.length - 1]! := if_neg h
  exact ⟨e, by rw [e, getElem!_pos l _ (by omega)]; exact List.getElem_mem _⟩
theorem asc_snoc {l : List Ev} {e : Ev} (h : Asc l) (hl : l.length = 0 ∨ (lastV l).T < e.T) : Asc (l ++ [e]) := by
  refine List.pairwise_append.2 ⟨h, List.pairwise_singleton _ _, fun x hx y hy => ?_⟩
  rw [List.mem_singleton] at hy; subst hy
  obtain ⟨i, hi, rfl⟩ := List.mem_iff_getElem.1 hx
  rcases hl with h0 | h0
  · omega
  · have e0 := (lastV_mem (l := l) (by omega)).1
    rw [getElem!_pos l _ (by omega)] at e0
    rcases Nat.lt_or_ge i (l.length - 1) with h1 | h1
    · have := List.pairwise_iff_getElem.1 h i (l.length - 1) hi (by omega) h1
      rw [e0] at h0; omega
    · have : i = l.length - 1 := by omega
      subst this; rw [e0] at h0; exact h0
/-- what was put so far, and what there is -/
structure RA (room lost mark : Int) (l put : List Ev) : Prop where
  rr : rk lost mark l room
  ok : ∀ e ∈ put, e.ok
  asc : Asc put
  le : l.length ≤ put.length
  n : (l.length : Int) = min (put.length : Int) room
  dr : l = put.drop (put.length - l.length)
  lo : lost = (put.length : Int) - l.length
  mrk : 0 < lost → ∀ e ∈ put.take (put.length - l.length), e.T ≤ mark
theorem RA.zero {room : Int} (h1 : 1 ≤ room) (h2 : room ≤ 4096) : RA room 0 0 [] [] :=
  ⟨⟨⟨h1, h2, by show (0 : Int) ≤ _; omega, by decide, by decide⟩, ris_iff.2 ⟨(fun e h => by cases h), .nil⟩, rfl⟩, (fun e h => by cases h), .nil, Nat.le_refl _, by show (0 : Int) = min 0 room; omega, rfl, rfl, fun h => absurd h (by decide)⟩
theorem RA.put {room lost mark : Int} {l put : List Ev} {e : Ev} (h : RA room lost mark l put) (he : putE lost mark l room e = 0) :
    RA room (putO lost mark l room e) (putM lost mark l room e) (putL lost mark l room e) (put ++ [e]) := by
  obtain ⟨hk, ho, ha, hle, hn, hd, hlo, hm⟩ := h
  have hc : rk lost mark l room ∧ e.ok := by
    by_cases h : rk lost mark l room ∧ e.ok
    · exact h
    · unfold putE at he; rw [if_neg h] at he; cases he
  have he' := he
  unfold putE at he'
  rw [if_pos hc] at he'
  have h1 : l.length = 0 ∨ (lastV l).T < e.T := by
    by_cases h : l.length ≠ 0 ∧ ¬ (lastV l).T < e.T
    · rw [if_pos h] at he'; cases he'
    · by_cases h0 : l.length = 0
      · exact .inl h0
      · right; by_cases h2 : (lastV l).T < e.T
        · exact h2
        · exact absurd ⟨h0, h2⟩ h
  rw [if_neg (fun h => h1.elim (fun x => h.1 x) (fun x => h.2 x))] at he'
  have h2 : ¬ ((l.length : Int) = room ∧ lost = 70368744177664) := by
    intro h; rw [if_pos h] at he'; cases he'
  obtain ⟨⟨b1, b2, b3, b4, b5⟩, hr, hmk⟩ := hk
  obtain ⟨r1, r2⟩ := ris_iff.1 hr
  have hlast : put.length = 0 ∨ (lastV put).T < e.T := by
    by_cases h0 : put.length = 0
    · exact .inl h0
    · right
      have hl0 : l.length ≠ 0 := by omega
      have e1 := (lastV_mem hl0).1
      have e2 := (lastV_mem h0).1
      have : lastV put = lastV l := by
        rw [e1, e2, getElem!_pos put _ (by omega), getElem!_pos l _ (by omega)]
        have := congrArg (fun x : List Ev => x[l.length - 1]?) hd
        simp only [List.getElem?_drop] at this
        rw [List.getElem?_eq_getElem (by omega), List.getElem?_eq_getElem (by omega)] at this
        have e3 := Option.some.inj this
        rw [e3]
        congr 1
        omega
      rw [this]
      exact h1.resolve_left hl0
  have okp : ∀ x ∈ put ++ [e], x.ok := fun x hx => by
    rcases List.mem_append.1 hx with h | h
    · exact ho x h
    · exact (List.mem_singleton.1 h) ▸ hc.2
  have asp := asc_snoc ha hlast
  by_cases h5 : (l.length : Int) < room
  · have hp : put.length = l.length := by omega
    have hz : lost = 0 := by omega
    have hdl : l = put := by rw [hd, hp, Nat.sub_self]; rfl
    have hmark : mark = 0 := by unfold mkd at hmk; rwa [if_pos hz] at hmk
    rw [show putO lost mark l room e = lost by unfold putO; rw [if_pos he, if_pos h5], show putM lost mark l room e = mark by unfold putM; rw [if_pos he, if_pos h5],
      show putL lost mark l room e = l ++ [e] by unfold putL; rw [if_pos he, if_pos h5]]
    have hlen : (l ++ [e]).length = l.length + 1 := by simp
    have hlen2 : (put ++ [e]).length = l.length + 1 := by simp [hp]
    refine ⟨⟨⟨b1, b2, by rw [hlen]; omega, b4, b5⟩, ris_iff.2 ⟨fun x hx => okp x (by rw [← hdl]; exact hx), by rw [hdl]; exact asp⟩, ?_⟩, okp, asp, by omega, by rw [hlen, hlen2]; omega, by rw [hlen, hlen2, Nat.sub_self, hdl]; rfl, by rw [hlen, hlen2]; omega, fun h => by omega⟩
    unfold mkd; rw [if_pos hz]; exact hmark
  · have hl : (l.length : Int) = room := by omega
    rw [show putO lost mark l room e = lost + 1 by unfold putO; rw [if_pos he, if_neg h5], show putM lost mark l room e = (l[0]!).T by unfold putM; rw [if_pos he, if_neg h5],
      show putL lost mark l room e = l.drop 1 ++ [e] by unfold putL; rw [if_pos he, if_neg h5]]
    have hl0 : 0 < l.length := by omega
    have hlen : (l.drop 1 ++ [e]).length = l.length := by simp; omega
    have hlen2 : (put ++ [e]).length = put.length + 1 := by simp
    have hdr : l.drop 1 ++ [e] = (put ++ [e]).drop (put.length + 1 - l.length) := by
      rw [List.drop_append_of_le_length (by omega)]
      congr 1
      rw [show put.length + 1 - l.length = (put.length - l.length) + 1 by omega, ← List.drop_drop, ← hd]
    have has : Asc (l.drop 1 ++ [e]) := by rw [hdr]; exact asp.sublist (List.drop_sublist _ _)
    have hok0 : (l[0]!).ok := by rw [getElem!_pos l 0 hl0]; exact r1 _ (List.getElem_mem _)
    have hfirst : (l[0]!).T < ((l.drop 1 ++ [e])[0]!).T := by
      have : Asc (l ++ [e]) := asc_snoc r2 h1
      have h3 := List.pairwise_iff_getElem.1 this 0 1 (by simp) (by simp; omega) (by decide)
      rw [List.getElem_append_left hl0] at h3
      rw [getElem!_pos l 0 hl0, getElem!_pos _ 0 (by omega)]
      refine Int.lt_of_lt_of_le h3 (Int.le_of_eq (congrArg Ev.T ?_))
      have e1 : l.drop 1 ++ [e] = (l ++ [e]).drop 1 := by rw [List.drop_append_of_le_length (by omega)]
      simp only [e1, List.getElem_drop]
    refine ⟨⟨⟨b1, b2, by rw [hlen]; omega, by omega, by omega⟩, ris_iff.2 ⟨fun x hx => okp x (List.mem_of_mem_drop (by rw [← hdr]; exact hx)), has⟩, ?_⟩, okp, asp, by omega, by rw [hlen, hlen2]; omega, by rw [hlen, hlen2]; exact hdr, by rw [hlen, hlen2]; omega, fun _ x hx => ?_⟩
    · unfold mkd; rw [if_neg (by omega)]
      exact ⟨by rw [hlen]; exact hl, hok0.1, hfirst⟩
    · rw [hlen, hlen2, List.take_append_of_le_length (by omega), show put.length + 1 - l.length = (put.length - l.length) + 1 by omega] at hx
      have hi : put.length - l.length < put.length := by omega
      have e0 : put[put.length - l.length] = l[0]! := by
        have := congrArg (fun x : List Ev => x[0]?) hd
        simp only [List.getElem?_drop, Nat.add_zero] at this
        rw [List.getElem?_eq_getElem hl0, List.getElem?_eq_getElem hi] at this
        rw [getElem!_pos l 0 hl0]; exact (Option.some.inj this).symm
      rw [List.take_add_one, List.getElem?_eq_getElem hi, Option.toList_some] at hx
      rcases List.mem_append.1 hx with h | h
      · obtain ⟨i, hi2, rfl⟩ := List.mem_iff_getElem.1 h
        rw [List.getElem_take]
        have hi3 : i < put.length - l.length := by rw [List.length_take] at hi2; omega
        have := List.pairwise_iff_getElem.1 ha i (put.length - l.length) (by omega) hi hi3
        rw [e0] at this; omega
      · rw [List.mem_singleton.1 h, e0]; exact Int.le_refl _
/-- of a range, all of it -/
theorem RA.all {room lost mark : Int} {l put : List Ev} (h : RA room lost mark l put) {a b : Int} (he : rgE lost mark a b = 0) : rgL lost mark l a b = put.filter (keep a b) := by
  have hm := h.mrk
  have hlo := h.lo
  unfold rgL
  rw [if_pos he]
  have hq : put.filter (keep a b) = (put.take (put.length - l.length)).filter (keep a b) ++ l.filter (keep a b) := by
    conv => lhs; rw [← List.take_append_drop (put.length - l.length) put]
    rw [List.filter_append, ← h.dr]
  suffices hz : (put.take (put.length - l.length)).filter (keep a b) = [] from by rw [hq, hz, List.nil_append]
  refine List.filter_eq_nil_iff.2 ?_
  intro x hx hk
  have hk' : a ≤ x.T ∧ x.T < b := of_decide_eq_true hk
  unfold rgE at he
  by_cases h1 : b ≤ a
  · rw [if_pos h1] at he; cases he
  · rw [if_neg h1] at he
    by_cases h2 : 0 < lost ∧ a ≤ mark
    · rw [if_pos h2] at he; cases he
    · have h0 : 0 < lost := by
        have := List.length_pos_of_mem hx
        rw [List.length_take] at this
        have := h.le
        omega
      have := hm h0 x hx
      omega
end Raw
end Go.Proofs.YtkoijdmlehkhbaaGreatDoor
namespace Go.Proofs.YtkoijdmlehkhbaaGreatDoor
open Go Go.J
namespace Sv
open Cell Ti Fo Gr Se
abbrev tt (x : Ser) : TT := ⟨x.t0, x.t1, x.t2⟩
/-- the events were put, and no other ones -/
structure SI (K : Cfg) (es : List Ev) (x : Ser) : Prop where
  inv : Inv K es (tt x).ls x.op
  last : x.last = if es = [] then -1 else lastT es
  raw : Raw.RA K.r x.lost x.mark x.raw.l es
  lab : Lb.right x.lab.l
theorem bhd_lv {w n c i : Int} {es : List Ev} {l : List Slot} (h : Lv w n es c l) (hi : c ≤ i) : bhd l i = false := by
  unfold bhd
  rw [List.any_eq_false]
  intro s hs hb
  have hb := of_decide_eq_true hb
  have hk : keep s = true := keep_ne.2 fun e => by rw [e] at hb; exact absurd hb.1 (by decide)
  have := (h.snd s hs hk).1
  omega
theorem drop_last {α : Type} [Inhabited α] {l : List α} {k : Nat} (hk : k < l.length) : (l.drop k)[(l.drop k).length - 1]! = l.getLast (List.ne_nil_of_length_pos (by omega)) := by
  have hl : (l.drop k).length = l.length - k := List.length_drop
  rw [getElem!_pos _ _ (by omega), List.getElem_drop, List.getLast_eq_getElem]
  congr 1
  omega
theorem SI.fst {K : Cfg} {es : List Ev} {x : Ser} (h : SI K es x) (hn : es ≠ []) : x.raw.l.length ≠ 0 ∧ (Raw.lastV x.raw.l).T = lastT es := by
  have h1 := List.length_pos_iff.2 hn
  have hr := h.inv.ok.hr
  have h2 := h.raw.n
  have h3 : x.raw.l.length ≠ 0 := by omega
  refine ⟨h3, ?_⟩
  unfold Raw.lastV
  rw [if_neg h3, lastT_get hn]
  have h4 := drop_last (l := es) (k := es.length - x.raw.l.length) (by have := h.raw.le; omega)
  rw [← h.raw.dr] at h4
  rw [h4]
theorem SI.pos {K : Cfg} {es : List Ev} {x : Ser} (h : SI K es x) (hn : es ≠ []) : x.last = lastT es ∧ 0 ≤ x.last ∧ x.last ≤ 35184372088831 := by
  have e : x.last = lastT es := h.last.trans (if_neg hn)
  have := last_bd h.inv.g hn
  rw [e]
  exact ⟨rfl, this⟩
theorem SI.sok {K : Cfg} {es : List Ev} {x : Ser} (h : SI K es x) : sok K x := by
  refine ⟨h.inv.fk, h.lab, h.raw.rr, ?_⟩
  by_cases hn : es = []
  · rw [if_pos (h.last.trans (if_pos hn))]
    have e0 : ∀ w : Int, lastT es / w = 0 := fun w => by rw [hn]; exact Int.zero_ediv w
    have h0 := bhd_lv h.inv.a (i := 0) (by rw [e0]; exact Int.le_refl _)
    have h1 := bhd_lv h.inv.b (i := 0) (by rw [e0]; exact Int.le_refl _)
    have h2 := bhd_lv h.inv.c (i := 0) (by rw [e0]; exact Int.le_refl _)
    change bhd x.t0.l 0 = false at h0
    change bhd x.t1.l 0 = false at h1
    change bhd x.t2.l 0 = false at h2
    have h3 : x.raw.l.length = 0 := by have := h.raw.le; rw [hn] at this; exact Nat.le_zero.1 this
    have h4 : x.op = Slot.z := h.inv.op.trans (if_pos hn)
    unfold frs
    rw [h0, h1, h2, decide_eq_true ⟨h3, h4⟩]
    rfl
  · obtain ⟨hl, hp, -⟩ := h.pos hn
    rw [if_neg (by omega)]
    have h0 := bhd_lv h.inv.a (i := lastT es / K.a) (Int.le_refl _)
    have h1 := bhd_lv h.inv.b (i := lastT es / K.b) (Int.le_refl _)
    have h2 := bhd_lv h.inv.c (i := lastT es / K.d) (Int.le_refl _)
    rw [← hl] at h0 h1 h2
    change bhd x.t0.l _ = false at h0
    change bhd x.t1.l _ = false at h1
    change bhd x.t2.l _ = false at h2
    obtain ⟨h3, h4⟩ := h.fst hn
    have h5 := h.inv.lastC hn
    have h6 := (h.inv.open_ hn).2.2.1
    have hb : edB x K := ⟨if_neg h3, h4.trans hl.symm, h5.trans hl.symm, h6⟩
    unfold eds
    rw [h0, h1, h2, decide_eq_true hb]
    rfl
end Sv
end Go.Proofs.YtkoijdmlehkhbaaGreatDoor
namespace Go.Proofs.YtkoijdmlehkhbaaGreatDoor
open Go Go.J
namespace Gr
open Cell Ti Fo
/-- a tier's slot is there if it is there in any tier that has the same events -/
theorem Lv.in_ {w n c : Int} {es : List Ev} {l l' : List Slot} (h : Lv w n es c l) (h' : Lv w n es c l') (hG : Good es) {k : Nat} (hk : k < l.length) (hs : keep l[k]! = true) : l'[k]! = l[k]! := by
  have hm : l[k]! ∈ l := Ls.mem! hk
  obtain ⟨s1, s2⟩ := h.snd _ hm hs
  have hne : win w l[k]!.w es ≠ [] := fun e => by
    refine keep_ne.1 hs ?_
    have hf := h.ok.2.2 k hk
    rcases hf with hf | ⟨_, hf⟩
    · exact hf
    · exact absurd (by rw [s2, G_n, e]; rfl) hf.1
  obtain ⟨e, he⟩ := List.exists_mem_of_ne_nil _ hne
  obtain ⟨he1, he2⟩ := win_mem.1 he
  have hin := h'.all e he1 (by rw [he2]; exact s1) (by
    rw [he2]
    exact h.own _ hm hs)
  rw [he2] at hin
  obtain ⟨k', hk', e'⟩ := List.mem_iff_getElem.1 hin
  have e2 : l'[k']! = ⟨l[k]!.w, G w es l[k]!.w⟩ := (getElem!_pos l' k' hk').trans e'
  have hkp : keep l'[k']! = true := by rw [e2]; exact keep_full (cel_full (hG.sub (win_sub _ _ _)) hne).1
  have p1 := at_pos h.ok hk hs
  have p2 := at_pos h'.ok hk' hkp
  rw [h.len] at p1
  rw [h'.len, e2] at p2
  have : k' = k := by
    have : (k' : Int) = (k : Int) := p2.symm.trans p1
    omega
  subst this
  rw [e2]
  exact Slot.ext rfl s2.symm
/-- a tier has but one make -/
theorem Lv.uniq {w n c : Int} {es : List Ev} {l l' : List Slot} (h : Lv w n es c l) (h' : Lv w n es c l') (hG : Good es) : l = l' := by
  have hl : l.length = l'.length := by have := h.len.trans h'.len.symm; omega
  refine List.ext_getElem hl fun k h1 h2 => ?_
  rw [← getElem!_pos l k h1, ← getElem!_pos l' k h2]
  by_cases a : keep l[k]! = true
  · exact (h.in_ h' hG h1 a).symm
  · by_cases b : keep l'[k]! = true
    · exact h'.in_ h hG h2 b
    · rw [keep_z.1 (Bool.eq_false_iff.2 a), keep_z.1 (Bool.eq_false_iff.2 b)]
end Gr
namespace Sv
open Cell Ti Fo Gr Se
/-- a series to which the same was put is the same -/
theorem SI.same {K : Cfg} {es : List Ev} {x y : Ser} (hx : SI K es x) (hy : SI K es y) (hl : x.lab.l = y.lab.l) (hr : (es.length : Int) ≤ K.r) : eqS x y = true := by
  have hG := hx.inv.g
  have a1 := hx.raw
  have a2 := hy.raw
  have n1 := a1.n
  have n2 := a2.n
  have z1 : x.lost = 0 := by rw [a1.lo]; omega
  have z2 : y.lost = 0 := by rw [a2.lo]; omega
  have m1 := a1.rr.2.2
  have m2 := a2.rr.2.2
  unfold Raw.mkd at m1 m2
  rw [if_pos z1] at m1
  rw [if_pos z2] at m2
  have e1 := a1.dr
  have e2 := a2.dr
  rw [show es.length - x.raw.l.length = 0 by omega] at e1
  rw [show es.length - y.raw.l.length = 0 by omega] at e2
  refine eqS_iff.2 ⟨⟨hl, hx.last.trans hy.last.symm, ⟨z1.trans z2.symm, m1.trans m2.symm, e1.trans e2.symm⟩, hx.inv.op.trans hy.inv.op.symm⟩, ?_, ?_, ?_⟩
  · exact Lv.uniq hx.inv.a hy.inv.a hG
  · exact Lv.uniq hx.inv.b hy.inv.b hG
  · exact Lv.uniq hx.inv.c hy.inv.c hG
/-- all of it is there as it was -/
theorem SI.all {K : Cfg} {es : List Ev} {x : Ser} (hx : SI K es x) (hr : (es.length : Int) ≤ K.r) : x.raw.l = es := by
  have n1 := hx.raw.n
  have e1 := hx.raw.dr
  rwa [show es.length - x.raw.l.length = 0 by omega, List.drop_zero] at e1
end Sv
end Go.Proofs.YtkoijdmlehkhbaaGreatDoor
namespace Go.Proofs.YtkoijdmlehkhbaaGreatDoor
open Go Go.J
namespace Tr
open Slot Ti Se St Win Gr Sv
open Fo hiding pt emp
abbrev la : List Lab := [⟨[97], []⟩]
theorem la_right : Lb.right la := by decide
theorem la_few : Lb.few la := by
  refine ⟨by decide, fun i hi => ?_⟩
  have : i = 0 := by simp at hi; omega
  subst this
  exact ⟨by decide, by decide⟩
theorem la_mid : Lb.Mid la := la_few.mid
/-- the events were written, all to one series, that lies first -/
structure RI (K : Cfg) (es : List Ev) (u : Sta) : Prop where
  ok : K.ok
  k : u.k = K
  sw : u.swept = -1
  now : tm u.now
  len : (u.pl.l.length : Int) = K.c
  rest : ∀ i, 1 ≤ i → i < u.pl.l.length → u.pl.l[i]! = Ser.z
  nil : es = [] → u.pl.l[0]! = Ser.z
  si : es ≠ [] → SI K es u.pl.l[0]! ∧ u.pl.l[0]!.lab.l = la
  le : ∀ e ∈ es, e.T ≤ u.now
theorem emp_z : emp Ser.z = true := by unfold emp; exact eqS_iff.2 ⟨⟨rfl, rfl, ⟨rfl, rfl, rfl⟩, rfl⟩, rfl, rfl, rfl⟩
theorem emp_si {K : Cfg} {es : List Ev} {x : Ser} (h : SI K es x) (hn : es ≠ []) : emp x = false := by
  cases hc : emp x
  · rfl
  · have e := (eqS_iff.1 hc).1.2.2.1.2.2
    exact absurd (by rw [e]; rfl) (h.fst hn).1
theorem liv_z {u : Sta} : liv u Ser.z = false := by unfold liv; rw [emp_z]; rfl
section
variable {K : Cfg} {es : List Ev} {u : Sta}
theorem RI.len0 (h : RI K es u) : 0 < u.pl.l.length := by have := h.len; have := h.ok.hc; omega
theorem RI.liv0 (h : RI K es u) (hn : es ≠ []) : liv u u.pl.l[0]! = true := by
  unfold liv
  rw [emp_si (h.si hn).1 hn, decide_eq_true h.sw]
  rfl
theorem RI.last (h : RI K es u) (hn : es ≠ []) : u.pl.l[0]!.last = lastT es ∧ u.pl.l[0]!.last ≤ u.now := by
  have p := (h.si hn).1.pos hn
  refine ⟨p.1, ?_⟩
  rw [p.1, lastT_get hn]
  exact h.le _ (List.getLast_mem hn)
theorem RI.mark (h : RI K es u) : St.mk u ≤ u.now ∧ u.now < St.mk u + u.k.a := by
  have ha : 1 ≤ u.k.a := by rw [h.k]; exact h.ok.ha.1
  have h1 := Int.emod_nonneg u.now (show u.k.a ≠ 0 by omega)
  have h2 := Int.emod_lt_of_pos u.now (show 0 < u.k.a by omega)
  unfold St.mk
  omega
theorem RI.okU (h : RI K es u) : okU u := by
  refine ⟨⟨by rw [h.k]; exact h.ok, by rw [h.k]; exact h.len⟩, ⟨h.now, .inl h.sw, by rw [h.sw]; have := h.now.1; omega⟩, fun i hi => ?_⟩
  unfold rgt
  by_cases h0 : i = 0
  · subst h0
    by_cases hn : es = []
    · rw [h.nil hn, emp_z]; rfl
    · obtain ⟨a, b⟩ := h.si hn
      have p := a.pos hn
      have q := h.last hn
      have r := h.mark
      have t : twn u 0 = false := by unfold twn; simp
      rw [t, decide_eq_true (show rgh u u.pl.l[0]! from ⟨by rw [h.k]; exact a.sok, p.2.1, by omega⟩)]
      exact Bool.or_true _
  · rw [h.rest i (by omega) hi, emp_z]; rfl
theorem RI.fst (h : RI K es u) (hn : es ≠ []) : fstO u.pl.l.length (fnd u la) = some 0 :=
  fst_some h.len0 (by unfold fnd; rw [decide_eq_true (h.si hn).2, h.liv0 hn]; rfl) fun i hi => absurd hi (Nat.not_lt_zero _)
theorem RI.all_z (h : RI K es u) (hn : es = []) : ∀ i, i < u.pl.l.length → u.pl.l[i]! = Ser.z := fun i hi => by
  by_cases h0 : i = 0
  · subst h0; exact h.nil hn
  · exact h.rest i (by omega) hi
theorem RI.fst0 (h : RI K es u) (hn : es = []) : fstO u.pl.l.length (fnd u la) = none :=
  fst_none fun i hi => by unfold fnd; rw [h.all_z hn i hi, liv_z, Bool.and_false]
theorem RI.roo0 (h : RI K es u) (hn : es = []) : fstO u.pl.l.length (roo u) = some 0 :=
  fst_some h.len0 (by unfold roo; rw [h.nil hn, liv_z]; rfl) fun i hi => absurd hi (Nat.not_lt_zero _)
theorem RI.whr (h : RI K es u) {e : Ev} (hG : Gr.Good (es ++ [e])) (hn : e.T = u.now) (hst : e.S = false) : Ru.whr u la e = (0, decide (es = []), 0) := by
  obtain ⟨g1, g2, g3⟩ := good_last hG
  have hm := h.mark
  have hT := h.now.2
  have hB : Ru.toB u = min (St.mk u + u.k.a) 35184372088832 := rfl
  unfold Ru.whr
  rw [if_neg (not_not_intro h.okU), if_neg (not_not_intro la_right), if_neg (not_not_intro g2.1), if_neg (by rw [hn, hB]; omega)]
  by_cases hn0 : es = []
  · rw [h.fst0 hn0, hst, decide_eq_true hn0]
    dsimp only
    rw [if_neg (by decide), h.roo0 hn0]
    rfl
  · rw [h.fst hn0, decide_eq_false hn0]
    dsimp only
    have q := h.last hn0
    have := g3 _ (List.getLast_mem hn0)
    rw [← lastT_get hn0, ← q.1] at this
    rw [if_neg (by omega)]
    rfl
theorem RI.put (h : RI K es u) {y : Ser} {e : Ev} (hy : SI K (es ++ [e]) y) (hl : y.lab.l = la) (hn : e.T ≤ u.now) (p2 : Option Addr) (c2 : Nat) : RI K (es ++ [e]) ⟨u.k, u.now, u.swept, ⟨p2, c2, u.pl.l.set 0 y⟩⟩ where
  ok := h.ok
  k := h.k
  sw := h.sw
  now := h.now
  len := by show ((u.pl.l.set 0 y).length : Int) = _; rw [List.length_set]; exact h.len
  rest := fun i h1 hi => by
    have hi' : i < u.pl.l.length := by have h2 : i < (u.pl.l.set 0 y).length := hi; rwa [List.length_set] at h2
    show (u.pl.l.set 0 y)[i]! = _
    rw [getElem!_pos _ i (by rwa [List.length_set]), List.getElem_set_ne (by omega), ← getElem!_pos u.pl.l i hi']
    exact h.rest i h1 hi'
  nil := fun e => absurd e (by simp)
  si := fun _ => by
    have e0 : (u.pl.l.set 0 y)[0]! = y := by
      rw [getElem!_pos _ 0 (by rw [List.length_set]; exact h.len0), List.getElem_set_self]
    show SI K (es ++ [e]) (u.pl.l.set 0 y)[0]! ∧ (u.pl.l.set 0 y)[0]!.lab.l = la
    rw [e0]
    exact ⟨hy, hl⟩
  le := fun x hx => by
    rcases List.mem_append.1 hx with hx | hx
    · exact h.le x hx
    · rw [List.mem_singleton.1 hx]; exact hn
theorem RI.tick (h : RI K es u) {t : Int} (ht : u.now ≤ t) (hT : t < 35184372088832) : RI K es ⟨u.k, t, u.swept, u.pl⟩ where
  ok := h.ok
  k := h.k
  sw := h.sw
  now := ⟨by have := h.now.1; show 0 ≤ t; omega, hT⟩
  len := h.len
  rest := h.rest
  nil := h.nil
  si := h.si
  le := fun e he => Int.le_trans (h.le e he) ht
theorem RI.raw (h : RI K es u) (hr : (es.length : Int) ≤ K.r) : u.pl.l[0]!.raw.l = es := by
  by_cases hn : es = []
  · rw [h.nil hn, hn]
  · exact (h.si hn).1.all hr
theorem RI.new {n : Nat} (hK : K.ok) (hn : (n : Int) = K.c) (p : Option Addr) (c : Nat) : RI K [] ⟨K, 0, -1, ⟨p, c, List.replicate n Ser.z⟩⟩ := by
  have hz : ∀ i, i < n → (List.replicate n Ser.z)[i]! = Ser.z := fun i hi => by
    rw [getElem!_pos _ i (by rwa [List.length_replicate]), List.getElem_replicate]
  exact {
    ok := hK
    k := rfl
    sw := rfl
    now := ⟨Int.le_refl 0, by show (0 : Int) < 35184372088832; decide⟩
    len := by show ((List.replicate n Ser.z).length : Int) = _; rw [List.length_replicate]; exact hn
    rest := fun i _ hi => hz i (by have h2 : i < (List.replicate n Ser.z).length := hi; rwa [List.length_replicate] at h2)
    nil := fun _ => hz 0 (by have := hK.hc; omega)
    si := fun h => absurd rfl h
    le := fun e he => absurd he List.not_mem_nil }
end
/-- the events that somebody saw -/
def pk (q : Nat → Bool) (l : List Ev) (k : Nat) : List Ev := ((List.range k).filter q).map fun i => l[i]!
theorem pk_succ (q : Nat → Bool) (l : List Ev) (k : Nat) : pk q l (k + 1) = pk q l k ++ if q k = true then [l[k]!] else [] := by
  unfold pk
  rw [List.range_succ, List.filter_append, List.map_append]
  congr 1
  by_cases h : q k = true
  · rw [if_pos h, List.filter_cons, if_pos h]; rfl
  · rw [if_neg h, List.filter_cons, if_neg h]; rfl
theorem pk_sub (q : Nat → Bool) (l : List Ev) : ∀ k, k ≤ l.length → (pk q l k).Sublist (l.take k)
  | 0, _ => List.Sublist.refl _
  | k + 1, h => by
    rw [pk_succ, Ls.take_snoc (show k < l.length by omega)]
    refine (pk_sub q l k (by omega)).append ?_
    split
    · exact List.Sublist.refl _
    · exact List.nil_sublist _
theorem pk_mem {q : Nat → Bool} {l : List Ev} {k : Nat} {e : Ev} : e ∈ pk q l k ↔ ∃ i, i < k ∧ q i = true ∧ l[i]! = e := by
  unfold pk
  rw [List.mem_map]
  constructor
  · rintro ⟨i, hi, rfl⟩
    obtain ⟨h1, h2⟩ := List.mem_filter.1 hi
    exact ⟨i, List.mem_range.1 h1, h2, rfl⟩
  · rintro ⟨i, h1, h2, rfl⟩
    exact ⟨i, List.mem_filter.2 ⟨List.mem_range.2 h1, h2⟩, rfl⟩
theorem pk_all (l : List Ev) : pk (fun _ => true) l l.length = l := by
  unfold pk
  rw [List.filter_eq_self.2 (fun _ _ => rfl)]
  refine List.ext_getElem (by simp) fun i h1 h2 => ?_
  rw [List.getElem_map, List.getElem_range, getElem!_pos l i h2]
end Tr
end Go.Proofs.YtkoijdmlehkhbaaGreatDoor
namespace Go.J
open Go
/-- what a block has, said in other words -/
theorem At.sayblk {n : Nat} {F : Fr} {m : Mem} {w0 : World} {Rs Rs' : List Res} {E : TypeId} {K : Act → World → Prop} {b : Nat} {cs cs' : List Value} (hp : Pick Rs (.blk b E cs) Rs') (e : cs = cs') (h : At n w0 F m (.blk b E cs' :: Rs') K) : At n w0 F m Rs K := At.ent (Ent.of_pick hp) (e ▸ h)
end Go.J
namespace Go.Proofs.YtkoijdmlehkhbaaGreatDoor
open Go Go.J
attribute [local irreducible] At AtQ AtM AtM1 PR Ct Pu Rd Res.blk Res.own Res.ex RVs RV
namespace Sv
open Slot Ti Gr Se
open Fo hiding pt
theorem cloneO {m : Mem} (p : Option Addr) (c : Nat) (l : List Lab) (hl : l.length ≤ 1000000) (sl0 : Sl m Lb.cells 2 p c l) :
    Ct Tryz.prog 59 #[.slice p l.length c] m [] (fun v m' B => m = m' ∧ ∃ p2 c2, v = .slice p2 l.length c2 ∧ B = [.own Lb.cells 2 87 p2 c2 l]) := by
  cases p with
  | none =>
    have h0 : l = [] := List.eq_nil_of_length_eq_zero (by have := sl0.nil rfl; have := sl0.le; omega)
    subst h0
    refine Ct.enterV (by rfl) Tryz.func59 rfl Tryz.ntmps59 rfl (fun w0 Rest => ?_)
    (repeat' (first | refine zss ?_ | ((first | (with_reducible first | apply At.val | apply AtQ.val)); (exact pr_sleql (by rfl) (by rfl) (by rfl)); exact rfl) | refine zsM ?_ | (refine zsp ?_ ?_ <;> (intro hc; (try simp only [zhcs, reduceCtorEq] at hc); (try (exfalso; first | contradiction | omega | exact absurd rfl hc | exact absurd (by decide) hc))))))
    all_goals refine At.own_nil Lb.cells 2 87 ?_
    all_goals ((with_reducible apply At.retB1 (B := [.own Lb.cells 2 87 _ _ _])); exact rfl; exact rfl; exact zml; exact zkp; exact ⟨rfl, _, _, rfl, rfl⟩)
  | some a =>
    refine Ct.enterV (by rfl) Tryz.func59 rfl Tryz.ntmps59 rfl (fun w0 Rest => ?_)
    (repeat' (first | refine zss ?_ | ((first | (with_reducible first | apply At.val | apply AtQ.val)); (exact pr_sleql (by rfl) (by rfl) (by rfl)); exact rfl) | refine zsM ?_ | ((with_reducible apply At.lit Lb.cells ([] : List Lab)); exact inferInstance; (iterate 7 exact rfl); intro _) | ((with_reducible apply At.apW (f := Lb.cells)); exact rfl; exact rfl; exact (by repeat constructor); exact inferInstance; exact zrdl; (iterate 4 exact rfl); exact zom; exact rfl; intro _ _) | (refine zsp ?_ ?_ <;> (intro hc; (try simp only [zhcs, reduceCtorEq] at hc); (try (exfalso; first | contradiction | omega | exact absurd rfl hc | exact absurd (by decide) hc))))))
    all_goals ((with_reducible apply At.retB1 (B := [.own Lb.cells 2 87 _ _ _])); exact rfl; exact rfl; exact zml; exact zkp; exact ⟨rfl, _, _, rfl, rfl⟩)
theorem cloneL {m : Mem} (p : Option Addr) (c : Nat) (l : List Lab) (hl : l.length ≤ 1000000) (sl0 : Sl m Lb.cells 2 p c l) :
    Ct Tryz.prog 59 #[.slice p l.length c] m [] (fun v m' B => B = [] ∧ ∃ p2 c2, v = .slice p2 l.length c2 ∧ Sl m' Lb.cells 2 p2 c2 l) :=
  Ct.slice (R := fun v p c => v = .slice p l.length c) inferInstance (Ct.mono (cloneO p c l hl sl0) fun v m' B _ ⟨_, p, c, h2, h3⟩ => ⟨p, c, h2, h3⟩)
theorem inn {K : Cfg} {es : List Ev} {T : L3} {o : Slot} (h : Inv K es T o) : Slot.In o := by
  by_cases hn : es = []
  · have : o = Slot.z := h.op.trans (if_pos hn)
    rw [this]; exact z_in
  · obtain ⟨e, _, _, _⟩ := h.open_ hn
    have hb := last_bd h.g hn
    have h1 := Int.ediv_nonneg hb.1 (show 0 ≤ K.a by have := h.ok.ha; omega)
    have h2 := Int.ediv_le_self K.a hb.1
    have hc : Cell.In (G K.a es (lastT es / K.a)) := cel_in (h.g.sub (win_sub _ _ _))
    rw [e]
    exact ⟨by dsimp only; omega, hc.1, hc.2.1, hc.2.2.1, hc.2.2.2⟩
/-- what has tiers, and all else of x -/
theorem okT {m : Mem} {x : Ser} {t : TT} {o : Slot} (h : x.Ok m) (ht : t.Ok m) (ho : Slot.In o) : (⟨x.lab, x.last, x.lost, x.mark, x.raw, t.a, t.b, t.c, o⟩ : Ser).Ok m :=
  ⟨h.sl, h.sr, ht.a.sl, ht.b.sl, ht.c.sl, h.ml, ht.a.i, ht.b.i, ht.c.i, ho, h.ir, h.nl, h.nr, ht.a.n, ht.b.n, ht.c.n, h.bl⟩
theorem okS {m : Mem} {x : Ser} (h : x.Ok m) : (tt x).Ok m := ⟨⟨h.s0, h.i0, h.n0⟩, ⟨h.s1, h.i1, h.n1⟩, ⟨h.s2, h.i2, h.n2⟩⟩
theorem zc : [Value.int .i64 0, .int .i64 0, .int .i64 0, .int .u64 0, .int .i64 0, .bool false, .int .i64 0, .int .u64 0, .int .i64 0, .bool false, .int .u64 0, .int .u64 0, .int .i64 0, .int .i64 0, .int .i64 0] = Slot.cells Slot.z := rfl
theorem new_v (A r a b c : Value) : Value.tuple #[Value.agg #[A, .int .i64 (-1), .int .i64 0, .int .i64 0, r, a, b, c, .int .i64 0, .int .i64 0, .int .i64 0, .int .u64 0, .int .i64 0, .bool false, .int .i64 0, .int .u64 0, .int .i64 0, .bool false, .int .u64 0, .int .u64 0, .int .i64 0, .int .i64 0, .int .i64 0], .int .i64 0] = Value.tuple #[Value.agg (A :: Value.int .i64 (-1) :: Value.int .i64 0 :: Value.int .i64 0 :: r :: a :: b :: c :: Slot.cells Slot.z).toArray, .int .i64 0] :=
  congrArg (fun L : List Value => Value.tuple #[Value.agg (A :: Value.int .i64 (-1) :: Value.int .i64 0 :: Value.int .i64 0 :: r :: a :: b :: c :: L).toArray, Value.int .i64 0]) zc
theorem new_ {m : Mem} (K : Cfg) (p : Option Addr) (c : Nat) (l : List Lab) (hK : K.ok) (hR : Lb.right l) (ml : Lb.Mid l) (sl0 : Sl m Lb.cells 2 p c l) :
    Ct Tryz.prog 24 #[K.v, .slice p l.length c] m [] (fun v m' B => B = [] ∧ ∃ x : Ser, v = .tuple #[x.v, .int .i64 0] ∧ x.Ok m' ∧ SI K [] x ∧ x.lab.l = l) := by
  have k0 := Cfg.check K
  unfold Cfg.chk at k0
  rw [if_pos hK] at k0
  have k1 := fun (m' : Mem) (h : m.le m') => Lb.check p c l ml (sl0.mono h)
  unfold Lb.chk at k1
  rw [if_pos hR] at k1
  have hl : l.length ≤ 1000000 := Nat.le_trans hR.2.1 (by decide)
  have k2 := fun (m' : Mem) (h : m.le m') => cloneL p c l hl (sl0.mono h)
  have k3 := fun (m' : Mem) => Fo.empty (m := m') K
  have fin : ∀ (m' : Mem) p2 c2 (t : TT), Sl m' Lb.cells 2 p2 c2 l → t.Ok m' → t.ls = emp K → (⟨⟨p2, c2, l⟩, -1, 0, 0, Lst.nil, t.a, t.b, t.c, Slot.z⟩ : Ser).Ok m' ∧ SI K [] (⟨⟨p2, c2, l⟩, -1, 0, 0, Lst.nil, t.a, t.b, t.c, Slot.z⟩ : Ser) := fun m' p2 c2 t sl ht e =>
    ⟨⟨sl, Sl.empty m' inferInstance, ht.a.sl, ht.b.sl, ht.c.sl, ml, ht.a.i, ht.b.i, ht.c.i, z_in, fun _ h => absurd h List.not_mem_nil, hl, Nat.zero_le _, ht.a.n, ht.b.n, ht.c.n, (by decide : -9223372036854775808 ≤ (-1 : Int) ∧ (-1 : Int) ≤ 9223372036854775807)⟩,
     ⟨by show Inv K [] t.ls Slot.z; rw [e]; exact Inv.new hK, rfl, Raw.RA.zero hK.hr.1 hK.hr.2, hR⟩⟩
  clear hR ml hK
  refine Ct.enterV (by rfl) Tryz.func24 rfl Tryz.ntmps24 rfl (fun w0 Rest => ?_)
  (repeat' (first | ((with_reducible apply At.mixed (id := 7) 7 (.q 0 (.q 2 (.l 1 (.x 3 (.q 4 (.x 5 (.q 6 .done)))))))); exact rfl; kernel_rfl; kernel_rfl; kernel_rfl) | refine zsx ?_ | refine zss ?_ | ((with_reducible apply AtM.bo); exact rfl; exact rfl; exact rfl) | refine zsM ?_ | refine zxM ?_ | ((with_reducible first | apply AtM1.callp | apply AtQ.callp | apply At.callp); kernel_rfl; exact rfl; exact rfl; exact k0) | ((with_reducible first | apply AtM1.cr | apply AtQ.cr | apply At.cr); exact rfl; exact rfl; exact fun _ hmm => k1 _ hmm; exact ztk; kernel_rfl) | ((with_reducible first | apply At.c1 | apply At.c0); exact rfl; exact rfl; exact k2 _ zml; exact ztk; kernel_rfl; rintro v' m' B' hm' ⟨rfl, p2, c2, rfl, sl9⟩; (try replace sl0 := sl0.mono hm'); (try replace sl9 := sl9.mono hm'); (try (have hq0 : hm' = Mem.le_refl _ := rfl; clear hq0 hm'))) | ((with_reducible first | apply At.c1 | apply At.c0); exact rfl; exact rfl; exact k3 _; exact ztk; kernel_rfl; rintro v' m' B' hm' ⟨rfl, t, rfl, ht1, ht2⟩; (try replace sl0 := sl0.mono hm'); (try replace sl9 := sl9.mono hm'); (try (have hq0 : hm' = Mem.le_refl _ := rfl; clear hq0 hm'))) | ((with_reducible apply At.box (d := 2)); exact rfl; exact rfl; exact rfl; intro b2) | ((with_reducible apply At.alloc (d := 4)); exact rfl; exact rfl; intro b4) | (refine zsp ?_ ?_ <;> (intro hc; (try simp only [zhcs, reduceCtorEq] at hc); (try (exfalso; first | omega | contradiction | omega | exact absurd rfl hc | exact absurd (by decide) hc))))))
  all_goals (obtain ⟨f1, f2⟩ := fin _ _ _ t sl9 ht1 ht2)
  all_goals ((with_reducible apply At.retV (B := [])); exact rfl; (repeat' (first | exact RVs.nil | (with_reducible apply RVs.cons) | exact rv_tmp (by rfl) | exact rv_cellN (by rfl) (by repeat constructor) (by rfl) (by rfl) (by rfl) | exact rv_cell1 (by rfl) (by repeat constructor) (by rfl) (by rfl))); exact zml; exact zkp; exact ⟨rfl, (⟨⟨p2, c2, l⟩, -1, 0, 0, Lst.nil, t.a, t.b, t.c, Slot.z⟩ : Ser), new_v _ _ _ _ _, f1, f2, rfl⟩)
theorem turn_ {m : Mem} (q : Nat) (K : Cfg) (x : Ser) (es : List Ev) (e : Ev) (h : SI K es x) (ho : x.Ok m) (hG : Gr.Good (es ++ [e])) :
    Ct Tryz.prog 62 #[pt q, .int .i64 (e.T / K.a)] m (kb q K x) (fun v m' B => v = .int .i64 0 ∧ ∃ (t : TT) (o : Slot), B = kb q K ⟨x.lab, x.last, x.lost, x.mark, x.raw, t.a, t.b, t.c, o⟩ ∧ t.Ok m' ∧ Slot.In o ∧ Cell.addE o.c e = (Cell.add o.c e, 0) ∧ Inv K (es ++ [e]) t.ls ⟨e.T / K.a, Cell.add o.c e⟩) := by
  obtain ⟨T', o', c1, c2, ca, hN⟩ := h.inv.step hG
  have hio := inn h.inv
  have hn0 : 0 ≤ x.op.c.n := by
    by_cases hn : es = []
    · rw [h.inv.op.trans (if_pos hn)]; decide
    · have := (h.inv.open_ hn).2.1.n; omega
  by_cases hcond : 0 < x.op.c.n ∧ x.op.w ≠ e.T / K.a
  · obtain ⟨d1, d2, rfl⟩ := c1 hcond
    have kc := fun (m' : Mem) (h : m.le m') => close_ (m := m') K (tt x) x.op (e.T / K.a) ((okS ho).mono h) hio
    rw [d1, d2] at kc
    have hos := okS ho
    clear c1 c2 d1 d2 hG hio ho h hn0
    generalize e.T / K.a = i at *
    refine Ct.enterV (by rfl) Tryz.func62 rfl Tryz.ntmps62 rfl (fun w0 Rest => ?_)
    (repeat' (first | ((with_reducible apply At.mixed (id := 3) 22 (.q 0 (.q 1 (.q 2 (.q 3 (.q 4 (.q 5 (.q 6 (.q 7 (.q 8 (.q 9 (.q 10 (.q 11 (.q 12 (.q 13 (.q 14 (.b 15 19 (.q 16 (.q 17 (.q 18 (.l 19 (.x 20 (.q 21 .done)))))) (.l 15 (.q 16 (.q 17 (.q 18 (.x 20 (.q 21 .done))))))))))))))))))))))); exact rfl; kernel_rfl; kernel_rfl; kernel_rfl) | refine zsx ?_ | refine zss ?_ | ((with_reducible apply AtM.bo); exact rfl; exact rfl; exact rfl) | refine zsM ?_ | refine zxM ?_ | ((with_reducible first | apply At.c1 | apply At.c0); exact rfl; exact rfl; exact kc _ zml; exact ztk; kernel_rfl; rintro v' m' B' hm' ⟨rfl, t', rfl, ht1, ht2⟩; skip; (try (have hq0 : hm' = Mem.le_refl _ := rfl; clear hq0 hm'))) | ((with_reducible apply At.alloc (d := 5)); exact rfl; exact rfl; intro b5) | (refine zsp ?_ ?_ <;> (intro hc; (try simp only [zhcs, reduceCtorEq] at hc); (try (exfalso; first | (first | omega | exact absurd hc hcond.2) | contradiction | omega | exact absurd rfl hc | exact absurd (by decide) hc))))))
    all_goals refine At.sayblk (b := q) (cs' := K.cells ++ Ser.cells ⟨x.lab, x.last, x.lost, x.mark, x.raw, t'.a, t'.b, t'.c, Slot.z⟩) (by repeat constructor) (congrArg (fun L : List Value => K.cells ++ (x.lab.v :: Value.int .i64 x.last :: Value.int .i64 x.lost :: Value.int .i64 x.mark :: x.raw.v :: t'.a.v :: t'.b.v :: t'.c.v :: L)) zc) ?_
    all_goals ((with_reducible apply At.retV (B := kb q K ⟨x.lab, x.last, x.lost, x.mark, x.raw, t'.a, t'.b, t'.c, Slot.z⟩)); exact rfl; (repeat' (first | exact RVs.nil | (with_reducible apply RVs.cons) | exact rv_tmp (by rfl) | exact rv_cellN (by rfl) (by repeat constructor) (by rfl) (by rfl) (by rfl) | exact rv_cell1 (by rfl) (by repeat constructor) (by rfl) (by rfl))); exact zml; exact zkp; exact ⟨rfl, t', Slot.z, rfl, ht1, z_in, ca, by rw [ht2]; exact hN⟩)
  · obtain ⟨rfl, rfl⟩ := c2 hcond
    have hos := okS ho
    clear c1 c2 hG ho h
    generalize e.T / K.a = i at *
    refine Ct.enterV (by rfl) Tryz.func62 rfl Tryz.ntmps62 rfl (fun w0 Rest => ?_)
    (repeat' (first | refine zss ?_ | refine zsM ?_ | ((with_reducible apply At.alloc (d := 5)); exact rfl; exact rfl; intro b5) | (refine zsp ?_ ?_ <;> (intro hc; (try simp only [zhcs, reduceCtorEq] at hc); (try (exfalso; first | omega | contradiction | omega | exact absurd rfl hc | exact absurd (by decide) hc))))))
    all_goals ((with_reducible apply At.retV (B := kb q K x)); exact rfl; (repeat' (first | exact RVs.nil | (with_reducible apply RVs.cons) | exact rv_tmp (by rfl) | exact rv_cellN (by rfl) (by repeat constructor) (by rfl) (by rfl) (by rfl) | exact rv_cell1 (by rfl) (by repeat constructor) (by rfl) (by rfl))); exact zml; exact zkp; exact ⟨rfl, tt x, x.op, rfl, hos.mono zml, hio, ca, hN⟩)
theorem put_ok {K : Cfg} {es : List Ev} {x : Ser} {e : Ev} (h : SI K es x) (hG : Gr.Good (es ++ [e])) (hlen : es.length ≤ 1000000) : Raw.putE x.lost x.mark x.raw.l K.r e = 0 := by
  obtain ⟨-, hev, hlt⟩ := good_last hG
  unfold Raw.putE
  have h1 := h.raw.lo
  have h2 := h.raw.le
  rw [if_pos ⟨h.raw.rr, hev.1⟩, if_neg, if_neg (by omega)]
  rintro ⟨h3, h4⟩
  refine h4 ?_
  have hn : es ≠ [] := fun hn => h3 (by rw [hn] at h2; exact Nat.le_zero.1 h2)
  rw [(h.fst hn).2, lastT_get hn]
  exact hlt _ (List.getLast_mem hn)
theorem add_ {m : Mem} (q : Nat) (K : Cfg) (y : Ser) (i : Int) (e : Ev) (ho : y.Ok m) (he : e.V < 18446744073709551616) (hp : Raw.putE y.lost y.mark y.raw.l K.r e = 0) (ha : Cell.addE y.op.c e = (Cell.add y.op.c e, 0)) :
    Ct Tryz.prog 63 #[pt q, .int .i64 i, e.v] m (kb q K y) (fun v m' B => v = .int .i64 0 ∧ ∃ p c, B = kb q K ⟨y.lab, e.T, Raw.putO y.lost y.mark y.raw.l K.r e, Raw.putM y.lost y.mark y.raw.l K.r e, ⟨p, c, Raw.putL y.lost y.mark y.raw.l K.r e⟩, y.t0, y.t1, y.t2, ⟨i, Cell.add y.op.c e⟩⟩ ∧ Sl m' Ev.cells 4 p c (Raw.putL y.lost y.mark y.raw.l K.r e)) := by
  have k1 := fun (m' : Mem) (h : m.le m') => Raw.put (m := m') y.lost y.mark y.raw.p y.raw.c y.raw.l K.r e ho.nr (ho.sr.mono h)
  rw [hp] at k1
  unfold Raw.PostR at k1
  have k2 := Cell.add_ y.op.c e (slot_cell ho.io) he
  rw [ha] at k2
  clear ha hp ho
  generalize Raw.putO y.lost y.mark y.raw.l K.r e = po at *
  generalize Raw.putM y.lost y.mark y.raw.l K.r e = pm at *
  generalize Raw.putL y.lost y.mark y.raw.l K.r e = pl at *
  generalize Cell.add y.op.c e = ca at *
  refine Ct.enterV (by rfl) Tryz.func63 rfl Tryz.ntmps63 rfl (fun w0 Rest => ?_)
  (repeat' (first | ((with_reducible apply At.mixedX (id := 5) [.blk q 142 (K.cells ++ y.cells)] 21 (.q 0 (.q 1 (.q 2 (.q 3 (.q 4 (.q 5 (.q 6 (.q 7 (.q 8 (.q 9 (.q 10 (.q 11 (.l 12 (.q 13 (.q 14 (.q 15 (.l 16 (.q 17 (.q 18 (.q 19 (.x 20 .done)))))))))))))))))))))); (repeat' (first | exact Take.nil | ((with_reducible apply Take.cons); (focus ((repeat constructor); done))))); exact rfl; kernel_rfl; kernel_rfl; kernel_rfl) | ((with_reducible apply At.mixed (id := 1) 18 (.q 0 (.q 1 (.q 2 (.q 3 (.q 4 (.q 5 (.q 6 (.q 7 (.q 8 (.q 9 (.q 10 (.b 11 15 (.q 12 (.q 13 (.q 14 (.l 15 (.x 16 (.q 17 .done)))))) (.l 11 (.q 12 (.q 13 (.q 14 (.x 16 (.q 17 .done))))))))))))))))))); exact rfl; kernel_rfl; kernel_rfl; kernel_rfl) | ((with_reducible apply At.mixed (id := 2) 14 (.q 0 (.q 1 (.q 2 (.q 3 (.q 4 (.q 5 (.q 6 (.b 7 11 (.q 8 (.q 9 (.q 10 (.l 11 (.x 12 (.q 13 .done)))))) (.l 7 (.q 8 (.q 9 (.q 10 (.x 12 (.q 13 .done))))))))))))))); exact rfl; kernel_rfl; kernel_rfl; kernel_rfl) | refine zsx ?_ | refine zss ?_ | ((with_reducible apply AtM.bo); exact rfl; exact rfl; exact rfl) | refine zsM ?_ | refine zxM ?_ | ((with_reducible first | apply At.c1 | apply At.c0); exact rfl; exact rfl; exact k1 _ zml; exact ztk; kernel_rfl; rintro v' m' B' hm' ⟨rfl, p2, c2, rfl, sl9⟩; (try replace sl9 := sl9.mono hm'); (try (have hq0 : hm' = Mem.le_refl _ := rfl; clear hq0 hm'))) | ((with_reducible first | apply AtM1.callp | apply AtQ.callp | apply At.callp); kernel_rfl; exact rfl; exact rfl; exact k2) | ((with_reducible apply At.box (d := 5)); exact rfl; exact rfl; exact rfl; intro b5) | ((with_reducible apply At.alloc (d := 7)); exact rfl; exact rfl; intro b7) | ((with_reducible apply At.alloc (d := 9)); exact rfl; exact rfl; intro b9) | (refine zsp ?_ ?_ <;> (intro hc; (try simp only [zhcs, reduceCtorEq] at hc); (try (exfalso; first | (first | omega | exact absurd rfl hc) | contradiction | omega | exact absurd rfl hc | exact absurd (by decide) hc))))))
  all_goals ((with_reducible apply At.retV (B := kb q K ⟨y.lab, e.T, po, pm, ⟨p2, c2, pl⟩, y.t0, y.t1, y.t2, ⟨i, ca⟩⟩)); exact rfl; (repeat' (first | exact RVs.nil | (with_reducible apply RVs.cons) | exact rv_tmp (by rfl) | exact rv_cellN (by rfl) (by repeat constructor) (by rfl) (by rfl) (by rfl) | exact rv_cell1 (by rfl) (by repeat constructor) (by rfl) (by rfl))); exact zml; exact zkp; exact ⟨rfl, p2, c2, rfl, sl9⟩)
theorem openY {m : Mem} {K : Cfg} {es : List Ev} {x : Ser} (h : SI K es x) (ho : x.Ok m) : Ct Tryz.prog 61 #[K.v, x.v] m [] (fun v m' B => m = m' ∧ ∃ q, v = .tuple #[pt q, .int .i64 0] ∧ B = kb q K x) :=
  Ct.mono (openS K x ho) fun v m' B _ ⟨h1, h2⟩ => ⟨h1, (h2.resolve_right fun k => k.1 h.sok).2⟩
/-- what Put leaves -/
theorem put_fin {m m' : Mem} {K : Cfg} {x : Ser} {es : List Ev} {e : Ev} {t : TT} {o : Slot} {p : Option Addr} {c : Nat} (h : SI K es x) (ho : x.Ok m) (hm : m.le m') (hG : Gr.Good (es ++ [e])) (hlen : es.length ≤ 1000000) (ht : t.Ok m')
    (hN : Inv K (es ++ [e]) t.ls ⟨e.T / K.a, Cell.add o.c e⟩) (sl : Sl m' Ev.cells 4 p c (Raw.putL x.lost x.mark x.raw.l K.r e)) :
    (⟨x.lab, e.T, Raw.putO x.lost x.mark x.raw.l K.r e, Raw.putM x.lost x.mark x.raw.l K.r e, ⟨p, c, Raw.putL x.lost x.mark x.raw.l K.r e⟩, t.a, t.b, t.c, ⟨e.T / K.a, Cell.add o.c e⟩⟩ : Ser).Ok m' ∧ SI K (es ++ [e]) (⟨x.lab, e.T, Raw.putO x.lost x.mark x.raw.l K.r e, Raw.putM x.lost x.mark x.raw.l K.r e, ⟨p, c, Raw.putL x.lost x.mark x.raw.l K.r e⟩, t.a, t.b, t.c, ⟨e.T / K.a, Cell.add o.c e⟩⟩ : Ser) := by
  have hr := h.raw.put (put_ok h hG hlen)
  have hev := (good_last hG).2.1
  have hK := h.inv.ok.hr
  have h1 := hev.1
  unfold Ev.ok at h1
  refine ⟨⟨ho.sl.mono hm, sl, ht.a.sl, ht.b.sl, ht.c.sl, ho.ml, ht.a.i, ht.b.i, ht.c.i, inn hN, fun a ha => ?_, ho.nl, ?_, ht.a.n, ht.b.n, ht.c.n, by show -9223372036854775808 ≤ e.T ∧ e.T ≤ 9223372036854775807; omega⟩, ⟨hN, ?_, hr, h.lab⟩⟩
  · have ha : a ∈ Raw.putL x.lost x.mark x.raw.l K.r e := ha
    rw [hr.dr] at ha
    exact (hG.1 a (List.mem_of_mem_drop ha)).2
  · have := hr.n
    show (Raw.putL x.lost x.mark x.raw.l K.r e).length ≤ 1000000
    omega
  · show e.T = _
    rw [if_neg (by simp), lastT_snoc]
theorem put_ {m : Mem} (K : Cfg) (x : Ser) (es : List Ev) (e : Ev) (h : SI K es x) (ho : x.Ok m) (hG : Gr.Good (es ++ [e])) (hlen : es.length ≤ 1000000) :
    Ct Tryz.prog 26 #[K.v, x.v, e.v] m [] (fun v m' B => B = [] ∧ ∃ y : Ser, v = .tuple #[y.v, .int .i64 0] ∧ y.Ok m' ∧ SI K (es ++ [e]) y ∧ y.lab = x.lab) := by
  have hev := (good_last hG).2.1
  have hlt := (good_last hG).2.2
  have k0 := fun (m' : Mem) (hm : m.le m') => openY h (ho.mono hm)
  have k1 := Ev.check e
  rw [show e.chk = 0 from if_pos hev.1] at k1
  have hT := hev.1
  unfold Ev.ok at hT
  have hKa := h.inv.ok.ha
  have hq : IntKind.wrap .i64 (e.T.tdiv K.a) = e.T / K.a := by
    have h2 := Int.ediv_nonneg (show 0 ≤ e.T by omega) (show 0 ≤ K.a by omega)
    have h3 := Int.ediv_le_self K.a (show 0 ≤ e.T by omega)
    rw [Int.tdiv_eq_ediv_of_nonneg (by omega)]
    exact IntWalk.i64_in _ (by omega)
  have hKn : K.a ≠ 0 := by omega
  have hll : x.last < e.T := by
    by_cases hn : es = []
    · rw [h.last, if_pos hn]; omega
    · rw [(h.pos hn).1, lastT_get hn]; exact hlt _ (List.getLast_mem hn)
  have k2 := fun (m' : Mem) (q : Nat) (hm : m.le m') => turn_ (m := m') q K x es e h (ho.mono hm) hG
  have k3 := fun (m' : Mem) (q : Nat) (t : TT) (o : Slot) (hm : m.le m') (ht : t.Ok m') (hio : Slot.In o) (ca : Cell.addE o.c e = (Cell.add o.c e, 0)) => add_ (m := m') q K ⟨x.lab, x.last, x.lost, x.mark, x.raw, t.a, t.b, t.c, o⟩ (e.T / K.a) e (okT (ho.mono hm) ht hio) hev.2 (put_ok (x := x) h hG hlen) ca
  have k4 := fun (m' : Mem) (t : TT) (o : Slot) p c (hm : m.le m') (ht : t.Ok m') (hN : Inv K (es ++ [e]) t.ls ⟨e.T / K.a, Cell.add o.c e⟩) (sl : Sl m' Ev.cells 4 p c (Raw.putL x.lost x.mark x.raw.l K.r e)) => put_fin (m' := m') h ho hm hG hlen ht hN sl
  dsimp only at k3
  clear hev hlt hT hKa h ho hG hlen
  generalize e.T / K.a = i at *
  generalize Raw.putO x.lost x.mark x.raw.l K.r e = po at *
  generalize Raw.putM x.lost x.mark x.raw.l K.r e = pm at *
  generalize Raw.putL x.lost x.mark x.raw.l K.r e = pl at *
  refine Ct.enterV (by rfl) Tryz.func26 rfl Tryz.ntmps26 rfl (fun w0 Rest => ?_)
  (repeat' (first | refine zss ?_ | ((first | (with_reducible first | apply At.val | apply AtQ.val)); (first | exact pr_indexArr (k := 0) (by rfl) (by rfl) (by rfl) (by rfl) (by decide) | exact pr_quo (by rfl) (by rfl) hKn hq); exact rfl) | refine zsM ?_ | ((with_reducible first | apply At.c1 | apply At.c0); exact rfl; exact rfl; exact k0 _ zml; exact ztk; kernel_rfl; rintro v' m' B' hm' ⟨rfl, q, rfl, rfl⟩; (try replace sl9 := sl9.mono hm'); (try (have hq0 : hm' = Mem.le_refl _ := rfl; clear hq0 hm'))) | ((with_reducible first | apply AtM1.callp | apply AtQ.callp | apply At.callp); kernel_rfl; exact rfl; exact rfl; exact k1) | ((with_reducible first | apply At.c1 | apply At.c0); exact rfl; exact rfl; exact k2 _ q zml; exact ztk; kernel_rfl; rintro v' m' B' hm' ⟨rfl, t, o, rfl, ht, hio, ca, hN⟩; (try replace sl9 := sl9.mono hm'); (try (have hq0 : hm' = Mem.le_refl _ := rfl; clear hq0 hm'))) | ((with_reducible first | apply At.c1 | apply At.c0); exact rfl; exact rfl; exact k3 _ q t o zml (ht.mono zml) hio ca; exact ztk; kernel_rfl; rintro v' m' B' hm' ⟨rfl, p2, c2, rfl, sl9⟩; (try replace sl9 := sl9.mono hm'); (try (have hq0 : hm' = Mem.le_refl _ := rfl; clear hq0 hm'))) | ((with_reducible apply At.box (d := 3)); exact rfl; exact rfl; exact rfl; intro b3) | ((with_reducible apply At.box (d := 4)); exact rfl; exact rfl; exact rfl; intro b4) | ((with_reducible apply At.box (d := 5)); exact rfl; exact rfl; exact rfl; intro b5) | ((with_reducible apply At.alloc (d := 6)); exact rfl; exact rfl; intro b6) | (refine zsp ?_ ?_ <;> (intro hc; (try simp only [zhcs, reduceCtorEq] at hc); (try (exfalso; first | omega | contradiction | omega | exact absurd rfl hc | exact absurd (by decide) hc))))))
  all_goals (obtain ⟨f1, f2⟩ := k4 _ t o p2 c2 zml (ht.mono zml) hN sl9)
  all_goals ((with_reducible apply At.retV (B := [])); exact rfl; (repeat' (first | exact RVs.nil | (with_reducible apply RVs.cons) | exact rv_tmp (by rfl) | exact rv_cellN (by rfl) (by repeat constructor) (by rfl) (by rfl) (by rfl) | exact rv_cell1 (by rfl) (by repeat constructor) (by rfl) (by rfl))); exact zml; exact zkp; exact ⟨rfl, _, rfl, f1, f2, rfl⟩)
end Sv
end Go.Proofs.YtkoijdmlehkhbaaGreatDoor
namespace Go.Proofs.YtkoijdmlehkhbaaGreatDoor
open Go Go.J
attribute [local irreducible] At AtQ AtM AtM1 PR Ct Pu Rd Res.blk Res.own Res.ex RVs RV
namespace Tr
open Slot Ti Se St Win Gr Sv
open Fo hiding pt emp
def tkU (u : Sta) (t : Int) : Sta := if t ≤ u.now then u else ⟨u.k, t, u.swept, u.pl⟩
theorem tick {m : Mem} (u : Sta) (t : Int) (ht : t < 35184372088832) (hs : u.Ok m) (hok : okU u) :
    Rd Tryz.prog 55 #[u.v, .int .i64 t] m [] (.tuple #[(tkU u t).v, .bool (!decide (t ≤ u.now))]) := by
  unfold Rd tkU
  have k0 := fun (m' : Mem) (hm : m.le m') => check u (hs.mono hm)
  rw [show chk u = 0 from if_pos hok] at k0
  clear hs hok
  by_cases h : t ≤ u.now
  · rw [if_pos h, decide_eq_true h]
    refine Ct.enterV (by rfl) Tryz.func55 rfl Tryz.ntmps55 rfl (fun w0 Rest => ?_)
    (repeat' (first | refine zss ?_ | refine zs0 ?_ | ((with_reducible first | apply AtM1.cr | apply AtQ.cr | apply At.cr); exact rfl; exact rfl; exact fun _ hmm => k0 _ hmm; exact ztk; kernel_rfl) | ((with_reducible apply At.box (d := 2)); exact rfl; exact rfl; exact rfl; intro b2) | ((with_reducible apply At.alloc (d := 4)); exact rfl; exact rfl; intro b4) | (refine zsp ?_ ?_ <;> (intro hc; (try simp only [zhcs, reduceCtorEq] at hc); (try (exfalso; first | (first | omega | exact absurd rfl hc) | contradiction | omega | exact absurd rfl hc | exact absurd (by decide) hc))))))
    all_goals ((with_reducible apply At.retV (B := [])); exact rfl; (repeat' (first | exact RVs.nil | (with_reducible apply RVs.cons) | exact rv_tmp (by rfl) | exact rv_cellN (by rfl) (by repeat constructor) (by rfl) (by rfl) (by rfl) | exact rv_cell1 (by rfl) (by repeat constructor) (by rfl) (by rfl))); exact zml; exact zkp; exact ⟨rfl, rfl, rfl⟩)
  · rw [if_neg h, decide_eq_false h]
    refine Ct.enterV (by rfl) Tryz.func55 rfl Tryz.ntmps55 rfl (fun w0 Rest => ?_)
    (repeat' (first | refine zss ?_ | refine zs0 ?_ | ((with_reducible first | apply AtM1.cr | apply AtQ.cr | apply At.cr); exact rfl; exact rfl; exact fun _ hmm => k0 _ hmm; exact ztk; kernel_rfl) | ((with_reducible apply At.box (d := 2)); exact rfl; exact rfl; exact rfl; intro b2) | ((with_reducible apply At.alloc (d := 4)); exact rfl; exact rfl; intro b4) | (refine zsp ?_ ?_ <;> (intro hc; (try simp only [zhcs, reduceCtorEq] at hc); (try (exfalso; first | (first | omega | exact absurd rfl hc) | contradiction | omega | exact absurd rfl hc | exact absurd (by decide) hc))))))
    all_goals ((with_reducible apply At.retV (B := [])); exact rfl; (repeat' (first | exact RVs.nil | (with_reducible apply RVs.cons) | exact rv_tmp (by rfl) | exact rv_cellN (by rfl) (by repeat constructor) (by rfl) (by rfl) (by rfl) | exact rv_cell1 (by rfl) (by repeat constructor) (by rfl) (by rfl))); exact zml; exact zkp; exact ⟨rfl, rfl, rfl⟩)
theorem cloneS {m : Mem} (p : Option Addr) (c : Nat) (l : List Ser) (hl : l.length ≤ 1000000) (sl0 : Sl m Ser.cells 23 p c l) :
    Ct Tryz.prog 107 #[.slice p l.length c] m [] (fun v m' B => m = m' ∧ ∃ p2 c2, v = .slice p2 l.length c2 ∧ B = [.own Ser.cells 23 63 p2 c2 l]) := by
  cases p with
  | none =>
    have h0 : l = [] := List.eq_nil_of_length_eq_zero (by have := sl0.nil rfl; have := sl0.le; omega)
    subst h0
    refine Ct.enterV (by rfl) Tryz.func107 rfl Tryz.ntmps107 rfl (fun w0 Rest => ?_)
    (repeat' (first | refine zss ?_ | ((first | (with_reducible first | apply At.val | apply AtQ.val)); (exact pr_sleql (by rfl) (by rfl) (by rfl)); exact rfl) | refine zsM ?_ | (refine zsp ?_ ?_ <;> (intro hc; (try simp only [zhcs, reduceCtorEq] at hc); (try (exfalso; first | contradiction | omega | exact absurd rfl hc | exact absurd (by decide) hc))))))
    all_goals refine At.own_nil Ser.cells 23 63 ?_
    all_goals ((with_reducible apply At.retB1 (B := [.own Ser.cells 23 63 _ _ _])); exact rfl; exact rfl; exact zml; exact zkp; exact ⟨rfl, _, _, rfl, rfl⟩)
  | some a =>
    refine Ct.enterV (by rfl) Tryz.func107 rfl Tryz.ntmps107 rfl (fun w0 Rest => ?_)
    (repeat' (first | refine zss ?_ | ((first | (with_reducible first | apply At.val | apply AtQ.val)); (exact pr_sleql (by rfl) (by rfl) (by rfl)); exact rfl) | refine zsM ?_ | ((with_reducible apply At.lit Ser.cells ([] : List Ser)); exact inferInstance; (iterate 7 exact rfl); intro _) | ((with_reducible apply At.apW (f := Ser.cells)); exact rfl; exact rfl; exact (by repeat constructor); exact inferInstance; exact zrdl; (iterate 4 exact rfl); exact zom; exact rfl; intro _ _) | (refine zsp ?_ ?_ <;> (intro hc; (try simp only [zhcs, reduceCtorEq] at hc); (try (exfalso; first | contradiction | omega | exact absurd rfl hc | exact absurd (by decide) hc))))))
    all_goals ((with_reducible apply At.retB1 (B := [.own Ser.cells 23 63 _ _ _])); exact rfl; exact rfl; exact zml; exact zkp; exact ⟨rfl, _, _, rfl, rfl⟩)
/-- the series to which it is written -/
theorem place_ {m : Mem} (K : Cfg) (es : List Ev) (u : Sta) (p : Option Addr) (c : Nat) (h : RI K es u) (hs : u.Ok m) (sl0 : Sl m Lb.cells 2 p c la) :
    Ct Tryz.prog 106 #[u.v, .int .i64 0, .bool (decide (es = [])), .slice p 1 c] m [] (fun v m' B => B = [] ∧ ∃ x : Ser, v = .tuple #[x.v, .int .i64 0] ∧ x.Ok m' ∧ SI K es x ∧ x.lab.l = la) := by
  have hk := h.k
  subst hk
  by_cases hn : es = []
  · subst hn
    rw [decide_eq_true rfl]
    have k0 := fun (m' : Mem) (h' : m.le m') => Sv.new_ (m := m') u.k p c la h.ok la_right la_mid (sl0.mono h')
    clear hs h
    refine Ct.enterV (by rfl) Tryz.func106 rfl Tryz.ntmps106 rfl (fun w0 Rest => ?_)
    (repeat' (first | refine zss ?_ | refine zsM ?_ | ((with_reducible first | apply At.c1 | apply At.c0); exact rfl; exact rfl; exact k0 _ zml; exact ztk; kernel_rfl; rintro v' m' B' hm' ⟨rfl, x, rfl, hx, hI, hlab⟩; (try replace sl0 := sl0.mono hm'); (try replace sl1 := sl1.mono hm'); (try (have hq0 : hm' = Mem.le_refl _ := rfl; clear hq0 hm'))) | ((with_reducible apply At.box (d := 4)); exact rfl; exact rfl; exact rfl; intro b4) | ((with_reducible apply At.alloc (d := 8)); exact rfl; exact rfl; intro b8) | (refine zsp ?_ ?_ <;> (intro hc; (try simp only [zhcs, reduceCtorEq] at hc); (try (exfalso; first | (first | omega | exact absurd rfl hc) | contradiction | omega | exact absurd rfl hc | exact absurd (by decide) hc))))))
    all_goals ((with_reducible apply At.retV (B := [])); exact rfl; (repeat' (first | exact RVs.nil | (with_reducible apply RVs.cons) | exact rv_tmp (by rfl) | exact rv_cellN (by rfl) (by repeat constructor) (by rfl) (by rfl) (by rfl) | exact rv_cell1 (by rfl) (by repeat constructor) (by rfl) (by rfl))); exact zml; exact zkp; exact ⟨rfl, x, rfl, hx, hI, hlab⟩)
  · rw [decide_eq_false hn]
    obtain ⟨a, b⟩ := h.si hn
    have h0 := h.len0
    have sl1 := hs.sl
    have hx := hs.at h0
    clear hs h
    refine Ct.enterV (by rfl) Tryz.func106 rfl Tryz.ntmps106 rfl (fun w0 Rest => ?_)
    (repeat' (first | refine zss ?_ | refine zsM ?_ | ((with_reducible apply At.box (d := 4)); exact rfl; exact rfl; exact rfl; intro b4) | ((with_reducible apply At.alloc (d := 8)); exact rfl; exact rfl; intro b8) | (refine zsp ?_ ?_ <;> (intro hc; (try simp only [zhcs, reduceCtorEq] at hc); (try (exfalso; first | (first | omega | exact absurd rfl hc) | contradiction | omega | exact absurd rfl hc | exact absurd (by decide) hc))))))
    all_goals ((with_reducible apply At.retV (B := [])); exact rfl; (repeat' (first | exact RVs.nil | (with_reducible apply RVs.cons) | exact rv_tmp (by rfl) | exact rv_cellN (by rfl) (by repeat constructor) (by rfl) (by rfl) (by rfl) | exact rv_cell1 (by rfl) (by repeat constructor) (by rfl) (by rfl))); exact zml; exact zkp; exact ⟨rfl, _, rfl, hx, a, b⟩)
theorem set_v (u : Sta) (y : Ser) (p2 : Option Addr) (c2 : Nat) : Value.agg #[.int .i64 u.k.r, .int .i64 u.k.a, .int .i64 u.k.b, .int .i64 u.k.d, .int .i64 u.k.x, .int .i64 u.k.y, .int .i64 u.k.w, .int .i64 u.k.c, .int .i64 u.k.g, .int .i64 u.now, .int .i64 u.swept, .slice p2 u.pl.l.length c2] = (⟨u.k, u.now, u.swept, ⟨p2, c2, u.pl.l.set 0 y⟩⟩ : Sta).v := by
  show _ = Value.agg #[.int .i64 u.k.r, .int .i64 u.k.a, .int .i64 u.k.b, .int .i64 u.k.d, .int .i64 u.k.x, .int .i64 u.k.y, .int .i64 u.k.w, .int .i64 u.k.c, .int .i64 u.k.g, .int .i64 u.now, .int .i64 u.swept, .slice p2 (u.pl.l.set 0 y).length c2]
  rw [List.length_set]
set_option maxRecDepth 100000 in
theorem one_ {m : Mem} (K : Cfg) (es : List Ev) (u : Sta) (e : Ev) (p : Option Addr) (c : Nat) (h : RI K es u) (hs : u.Ok m) (hG : Gr.Good (es ++ [e])) (hst : e.S = false) (hn : e.T = u.now) (hlen : es.length ≤ 1000000) (sl0 : Sl m Lb.cells 2 p c la) :
    Ct Tryz.prog 56 #[u.v, .slice p 1 c, e.v] m [] (fun v m' B => B = [] ∧ ∃ u' : Sta, v = .tuple #[u'.v, .int .i64 0] ∧ u'.Ok m' ∧ RI K (es ++ [e]) u' ∧ u'.now = u.now) := by
  have k0 := fun (m' : Mem) (h' : m.le m') => Ru.where_ (m := m') u ⟨p, c, la⟩ e (hs.mono h') (by show 1 ≤ 1000000000; decide) la_mid (sl0.mono h')
  rw [h.whr hG hn hst] at k0
  have k1 := fun (m' : Mem) (h' : m.le m') => place_ (m := m') K es u p c h (hs.mono h') (sl0.mono h')
  have k2 := fun (m' : Mem) (x : Ser) (ho : x.Ok m') (hI : SI K es x) => put_ (m := m') K x es e hI ho hG hlen
  have k3 := fun (m' : Mem) (h' : m.le m') => cloneS (m := m') u.pl.p u.pl.c u.pl.l hs.np (hs.sl.mono h')
  have hk := h.k
  subst hk
  have h0 := h.len0
  try dsimp only at k0
  generalize decide (es = []) = g at k0 k1
  refine Ct.enterV (by rfl) Tryz.func56 rfl Tryz.ntmps56 rfl (fun w0 Rest => ?_)
  (repeat' (first | refine zss ?_ | refine zsOM ?_ | ((with_reducible first | apply AtM1.cr | apply AtQ.cr | apply At.cr); exact rfl; exact rfl; exact fun _ hmm => k0 _ zml; exact ztk; kernel_rfl) | ((with_reducible first | apply At.c1 | apply At.c0); exact rfl; exact rfl; exact k1 _ zml; exact ztk; kernel_rfl; rintro v' m' B' hm' ⟨rfl, x, rfl, hx, hI, hlab⟩; (try replace sl0 := sl0.mono hm'); (try replace sl9 := sl9.mono hm'); (try (have hq0 : hm' = Mem.le_refl _ := rfl; clear hq0 hm'))) | ((with_reducible first | apply At.c1 | apply At.c0); exact rfl; exact rfl; exact k2 _ x hx hI; exact ztk; kernel_rfl; rintro v' m' B' hm' ⟨rfl, y, rfl, hy, hyI, hyl⟩; (try replace sl0 := sl0.mono hm'); (try replace sl9 := sl9.mono hm'); (try (have hq0 : hm' = Mem.le_refl _ := rfl; clear hq0 hm'))) | ((with_reducible first | apply At.c1 | apply At.c0); exact rfl; exact rfl; exact k3 _ zml; exact ztk; kernel_rfl; rintro v' m' B' hm' ⟨rfl, p2, c2, rfl, rfl⟩; (try replace sl0 := sl0.mono hm'); (try replace sl9 := sl9.mono hm'); (try (have hq0 : hm' = Mem.le_refl _ := rfl; clear hq0 hm'))) | ((with_reducible apply At.storeW (f := Ser.cells) (x' := y)); (case hx => exact rfl); (case hy => exact rfl); (case hv => exact rfl); (case hp => exact (by repeat constructor)); (case hr => exact rfl); (case hf => exact inferInstance); (case hk => exact zom); (case hs => exact rfl); (case hq => exact rfl); (case h1 => exact rfl)) | ((with_reducible apply At.box (d := 3)); exact rfl; exact rfl; exact rfl; intro b3) | ((with_reducible apply At.box (d := 5)); exact rfl; exact rfl; exact rfl; intro b5) | ((with_reducible apply At.alloc (d := 6)); exact rfl; exact rfl; intro b6) | ((with_reducible apply At.alloc (d := 11)); exact rfl; exact rfl; intro b11) | (refine zsp ?_ ?_ <;> (intro hc; (try simp only [zhcs, reduceCtorEq] at hc); (try (exfalso; first | (first | omega | exact absurd rfl hc) | contradiction | omega | exact absurd rfl hc | exact absurd (by decide) hc))))))
  all_goals refine At.own_freeze inferInstance (by repeat constructor) fun m2 hm2 sl9 => ?_
  all_goals ((with_reducible apply At.retV (B := [])); exact rfl; (repeat' (first | exact RVs.nil | (with_reducible apply RVs.cons) | exact rv_tmp (by rfl) | exact rv_cellN (by rfl) (by repeat constructor) (by rfl) (by rfl) (by rfl) | exact rv_cell1 (by rfl) (by repeat constructor) (by rfl) (by rfl))); exact zml; exact zkp; exact ⟨rfl, ⟨u.k, u.now, u.swept, ⟨p2, c2, u.pl.l.set 0 y⟩⟩, congrArg (fun v => Value.tuple #[v, .int .i64 0]) (set_v u y p2 c2), ⟨sl9, fun x' hx' => ((List.mem_or_eq_of_mem_set hx').elim (fun h' => (hs.pk x' h').mono zml) (fun h' => h' ▸ hy.mono zml)), by show (u.pl.l.set 0 y).length ≤ 1000000; rw [List.length_set]; exact hs.np, hs.bn, hs.bs⟩, h.put hyI (by rw [hyl]; exact hlab) (by omega) p2 c2, rfl⟩)
structure SN where
  (k : Nat) (mm : Mem) (u : Sta)
/-- what time leaves: nothing but the time is another one -/
theorem RI.tk {K : Cfg} {es : List Ev} {u : Sta} (h : RI K es u) {t : Int} (ht : u.now ≤ t) (hT : t < 35184372088832) : RI K es (tkU u t) ∧ (tkU u t).now = t := by
  unfold tkU
  by_cases h1 : t ≤ u.now
  · rw [if_pos h1]; exact ⟨h, by omega⟩
  · rw [if_neg h1]; exact ⟨h.tick ht hT, rfl⟩
theorem tk_ok {m : Mem} {u : Sta} {t : Int} (h : u.Ok m) (ht : 0 ≤ t ∧ t < 35184372088832) : (tkU u t).Ok m := by
  unfold tkU
  split
  · exact h
  · exact ⟨h.sl, h.pk, h.np, ⟨by show _ ≤ t; omega, by show t ≤ _; omega⟩, h.bs⟩
end Tr
end Go.Proofs.YtkoijdmlehkhbaaGreatDoor
