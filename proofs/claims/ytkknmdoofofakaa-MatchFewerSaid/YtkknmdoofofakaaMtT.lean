/- MatchTells: the law's walk. -/
import Derived.Test.YtkknmdoofofakaaMtL
import Derived.Test.YtkknmdoofofakaaJT
set_option linter.unusedSimpArgs false
set_option linter.unusedVariables false
set_option linter.unusedSectionVars false
set_option maxRecDepth 20000
set_option maxHeartbeats 4000000
namespace Go.Proofs.Ytkknmdoofofakaa
open Go Go.J
attribute [local irreducible] At AtQ AtM AtM1 PR Ct Pu Rd Res.blk Res.own Res.ex RVs RV
namespace Mt
theorem few.mids {ms : List Mat} (h : few ms) : Mids ms := fun i hi => by
  have := h.2 i hi; exact ⟨by omega, by omega⟩
set_option maxHeartbeats 4000000 in
theorem tellsT {m : Mem} (q : Option Addr) (d : Nat) (ms : List Mat) (q2 : Option Addr) (d2 : Nat) (ls : List SL) (sl0 : Sl m cells 3 q d ms) (sl1 : Sl m Ls.fX 1 q2 d2 ls) (hL : ∀ i, i < ls.length → Sl m Lb.cells 2 ls[i]!.p ls[i]!.c ls[i]!.l) :
    Ct Try.prog 3 #[.slice q ms.length d, .slice q2 ls.length d2] m [] (fun v m' B => v = .bool true ∧ B = []) := by
  have hsm := fun (m' : Mem) (hm' : m.le m') => small (m := m') q d ms (sl0.mono hm')
  have hlv := lives
  by_cases hf : few ms
  · rw [if_pos hf] at hsm
    by_cases h40 : ls.length ≤ 40
    · have hmids := hf.mids
      have hm1 : ms.length ≤ 40 := hf.1
      refine Ct.enterV (by rfl) Try.func3 rfl Try.ntmps3 rfl (fun w0 Rest => ?_)
      (repeat' (first | refine ss ?_ | refine sM ?_ | ((with_reducible first | apply AtM1.cr | apply AtQ.cr | apply At.cr); exact rfl; exact rfl; exact fun _ hmm => hsm _ hmm; exact tk; kernel_rfl) | ((with_reducible apply At.alloc (d := 8)); exact rfl; exact rfl; intro b8) | (refine sp ?_ ?_ <;> (intro hc; (try simp only [hcs, reduceCtorEq] at hc); (try (exfalso; first | omega | contradiction | omega | exact absurd rfl hc | exact absurd (by decide) hc))))))
      (refine At.loopk (σ := Nat) [0, 1, 22, 23] (fun s F0 => (24, .int .i64 (s : Int)) :: F0) (fun s => m) (fun s => Rest) (fun s => s ≤ ls.length ∧ ∀ i, i < s → Lb.few ls[i]!.l) (fun s => ls.length - s) 0 (by rfl) ?_ subs ml ente ?_)
      · exact ⟨Nat.zero_le _, fun i h => absurd h (Nat.not_lt_zero i)⟩
      rintro i ⟨hi, hn⟩
      by_cases h : i < ls.length
      · have hlsm := fun (m' : Mem) (hm' : m.le m') => Lb.small (m := m') ls[i]!.p ls[i]!.c ls[i]!.l ((hL i h).mono hm')
        by_cases hfl : Lb.few ls[i]!.l
        · rw [if_pos hfl] at hlsm
          have hl9 : ls[i]!.l.length ≤ 1000000000 := by have := hfl.1; omega
          have ha := fun (m' : Mem) (hm' : m.le m') => allM (m := m') ls[i]!.p ls[i]!.c ls[i]!.l q d ms hl9 (by omega) ((hL i h).mono hm') (sl0.mono hm')
          have hb := fun (m' : Mem) (hm' : m.le m') => rallM (m := m') ls[i]!.p ls[i]!.c ls[i]!.l q d ms hl9 (by omega) ((hL i h).mono hm') (sl0.mono hm')
          have hh := fun (m' : Mem) (hm' : m.le m') (x : Mat) => hits (m := m') x ls[i]!.p ls[i]!.c ls[i]!.l hl9 ((hL i h).mono hm')
          have hrh := fun (m' : Mem) (hm' : m.le m') (x : Mat) => rhits (m := m') x ls[i]!.p ls[i]!.c ls[i]!.l hl9 ((hL i h).mono hm')
          have hnn : ∀ j, j < i + 1 → Lb.few ls[j]!.l := fun j hj => by
            by_cases e : j = i
            · subst e; exact hfl
            · exact hn j (by omega)
          cases ew : all ms ls[i]!.l
          all_goals
            rw [ew] at ha hb
            (repeat' (first | refine ss ?_ | refine sM ?_ | ((with_reducible first | apply AtM1.cr | apply AtQ.cr | apply At.cr); exact rfl; exact rfl; exact fun _ hmm => hlsm _ hmm; exact tk; kernel_rfl) | ((with_reducible first | apply AtM1.cr | apply AtQ.cr | apply At.cr); exact rfl; exact rfl; exact fun _ hmm => ha _ hmm; exact tk; kernel_rfl) | ((with_reducible first | apply AtM1.cr | apply AtQ.cr | apply At.cr); exact rfl; exact rfl; exact fun _ hmm => hb _ hmm; exact tk; kernel_rfl) | ((with_reducible apply At.alloc (d := 8)); exact rfl; exact rfl; intro b8) | (refine sp ?_ ?_ <;> (intro hc; (try simp only [hcs, reduceCtorEq] at hc); (try (exfalso; first | omega | contradiction | omega | exact absurd rfl hc | exact absurd (by decide) hc))))))
            (refine At.loopk (σ := Nat) [0, 1, 6, 22, 23, 24, 39, 40] (fun s F0 => (41, .int .i64 (s : Int)) :: F0) (fun s => m) (fun s => Rest) (fun s => s ≤ ms.length) (fun s => ms.length - s) 0 (by rfl) ?_ subs ml ente ?_)
            · exact Nat.zero_le _
            rintro j hj
            by_cases hjl : j < ms.length
            · have hh := fun (m' : Mem) (hm' : m.le m') => hh m' hm' ms[j]!
              have hrh := fun (m' : Mem) (hm' : m.le m') => hrh m' hm' ms[j]!
              cases eh : hit ms[j]! ls[i]!.l
              all_goals
                rw [eh] at hh hrh
                (repeat' (first | refine ss ?_ | refine sM ?_ | ((with_reducible first | apply AtM1.cr | apply AtQ.cr | apply At.cr); exact rfl; exact rfl; exact fun _ hmm => hh _ hmm; exact tk; kernel_rfl) | ((with_reducible first | apply AtM1.cr | apply AtQ.cr | apply At.cr); exact rfl; exact rfl; exact fun _ hmm => hrh _ hmm; exact tk; kernel_rfl) | ((with_reducible apply At.alloc (d := 8)); exact rfl; exact rfl; intro b8) | (refine sp ?_ ?_ <;> (intro hc; (try simp only [hcs, reduceCtorEq] at hc); (try (exfalso; first | omega | contradiction | omega | exact absurd rfl hc | exact absurd (by decide) hc))))))
                all_goals ((with_reducible refine At.reachk ((j + 1)) ?_ ?_ ?_ ?_); exact subs; exact ml; exact ente; exact ⟨hjl, by omega⟩)
            · (repeat' (first | refine ss ?_ | refine sM ?_ | ((with_reducible apply At.alloc (d := 8)); exact rfl; exact rfl; intro b8) | (refine sp ?_ ?_ <;> (intro hc; (try simp only [hcs, reduceCtorEq] at hc); (try (exfalso; first | omega | contradiction | omega | exact absurd rfl hc | exact absurd (by decide) hc))))))
              all_goals ((with_reducible refine At.reachk ((i + 1)) ?_ ?_ ?_ ?_); exact subs; exact ml; exact ente; exact ⟨⟨h, hnn⟩, by omega⟩)
        · rw [if_neg hfl] at hlsm
          (repeat' (first | refine ss ?_ | refine sM ?_ | ((with_reducible first | apply AtM1.cr | apply AtQ.cr | apply At.cr); exact rfl; exact rfl; exact fun _ hmm => hlsm _ hmm; exact tk; kernel_rfl) | ((with_reducible first | apply AtM1.callp | apply AtQ.callp | apply At.callp); kernel_rfl; exact rfl; exact rfl; exact hlv) | ((with_reducible apply At.alloc (d := 8)); exact rfl; exact rfl; intro b8) | (refine sp ?_ ?_ <;> (intro hc; (try simp only [hcs, reduceCtorEq] at hc); (try (exfalso; first | omega | contradiction | omega | exact absurd rfl hc | exact absurd (by decide) hc))))))
          all_goals ((with_reducible apply At.retB1 (B := [])); exact rfl; exact rfl; exact ml; exact kp; exact ⟨rfl, rfl⟩)
      · have hall : ∀ j, j < ls.length → Lb.few ls[j]!.l := fun j hj => hn j (by omega)
        have hLb : ∀ {m' : Mem}, m.le m' → Lbs m' ls := fun hm' j hj => ⟨by have := (hall j hj).1; omega, (hL j hj).mono hm'⟩
        have hx1 := fun (m' : Mem) (hm' : m.le m') => exactM (m := m') q d ms (by omega) hmids (sl0.mono hm')
        have hx2 := fun (m' : Mem) (hm' : m.le m') => rexactM (m := m') q d ms (by omega) hmids (sl0.mono hm')
        have hc1 := fun (m' : Mem) (hm' : m.le m') => checkM (m := m') q d ms (by omega) hmids (sl0.mono hm')
        have hc2 := fun (m' : Mem) (hm' : m.le m') => rcheckM (m := m') q d ms (by omega) hmids (sl0.mono hm')
        have hp1 := fun (m' : Mem) (hm' : m.le m') => pickM (m := m') q d ms q2 d2 ls (by omega) (by omega) (sl0.mono hm') (sl1.mono hm') (hLb hm')
        have hp2 := fun (m' : Mem) (hm' : m.le m') => rpickM (m := m') q d ms q2 d2 ls (by omega) (by omega) (sl0.mono hm') (sl1.mono hm') (hLb hm')
        have hpl := pickI_len ms ls ls.length
        have hxl : (exL ms).length ≤ 40 := by
          by_cases e : eqs ms ∧ Lb.right (Lb.srtL (ms.map lab))
          · rw [(ex_yes e).2, len_lab]; omega
          · rw [(ex_no e).2]; decide
        generalize pickI ms ls ls.length = Y at hp1 hp2 hpl
        generalize exL ms = X at hx1 hx2 hxl
        generalize exB ms = bx at hx1 hx2
        generalize chk ms = r at hc1 hc2
        have k1 := fun {m' : Mem} (p c p' c') (s1 : Sl m' Ls.fI 1 p c Y) (s2 : Sl m' Ls.fI 1 p' c' Y) => sameIC p c Y.length Y p' c' Y.length (by omega) rfl rfl s1 s2
        have k2 := fun {m' : Mem} (p c p' c') (s1 : Sl m' Lb.cells 2 p c X) (s2 : Sl m' Lb.cells 2 p' c' X) => sameLC p c X.length X p' c' X.length (by omega) rfl rfl s1 s2
        cases bx
        all_goals
          (repeat' (first | refine ss ?_ | refine sM ?_ | ((with_reducible first | apply At.c1 | apply At.c0); exact rfl; exact rfl; exact hx1 _ ml; exact tk; kernel_rfl; rintro v' m' B' hm' ⟨rfl, p5, c5, rfl, sl5⟩; (try replace sl0 := sl0.mono hm'); (try replace sl1 := sl1.mono hm'); (try replace sl5 := sl5.mono hm'); (try replace sl6 := sl6.mono hm'); (try replace sl7 := sl7.mono hm'); (try replace sl8 := sl8.mono hm'); (try (have hq0 : hm' = Mem.le_refl _ := rfl; clear hq0 hm'))) | ((with_reducible first | apply At.c1 | apply At.c0); exact rfl; exact rfl; exact hx2 _ ml; exact tk; kernel_rfl; rintro v' m' B' hm' ⟨rfl, p6, c6, rfl, sl6⟩; (try replace sl0 := sl0.mono hm'); (try replace sl1 := sl1.mono hm'); (try replace sl5 := sl5.mono hm'); (try replace sl6 := sl6.mono hm'); (try replace sl7 := sl7.mono hm'); (try replace sl8 := sl8.mono hm'); (try (have hq0 : hm' = Mem.le_refl _ := rfl; clear hq0 hm'))) | ((with_reducible first | apply AtM1.callp | apply AtQ.callp | apply At.callp); kernel_rfl; exact rfl; exact rfl; exact hlv) | ((with_reducible first | apply AtM1.cr | apply AtQ.cr | apply At.cr); exact rfl; exact rfl; exact fun _ hmm => hc1 _ (Mem.le_trans ml hmm); exact tk; kernel_rfl) | ((with_reducible first | apply AtM1.cr | apply AtQ.cr | apply At.cr); exact rfl; exact rfl; exact fun _ hmm => hc2 _ (Mem.le_trans ml hmm); exact tk; kernel_rfl) | ((with_reducible first | apply At.c1 | apply At.c0); exact rfl; exact rfl; exact hp1 _ ml; exact tk; kernel_rfl; rintro v' m' B' hm' ⟨rfl, p7, c7, rfl, sl7⟩; (try replace sl0 := sl0.mono hm'); (try replace sl1 := sl1.mono hm'); (try replace sl5 := sl5.mono hm'); (try replace sl6 := sl6.mono hm'); (try replace sl7 := sl7.mono hm'); (try replace sl8 := sl8.mono hm'); (try (have hq0 : hm' = Mem.le_refl _ := rfl; clear hq0 hm'))) | ((with_reducible first | apply At.c1 | apply At.c0); exact rfl; exact rfl; exact hp2 _ ml; exact tk; kernel_rfl; rintro v' m' B' hm' ⟨rfl, p8, c8, rfl, sl8⟩; (try replace sl0 := sl0.mono hm'); (try replace sl1 := sl1.mono hm'); (try replace sl5 := sl5.mono hm'); (try replace sl6 := sl6.mono hm'); (try replace sl7 := sl7.mono hm'); (try replace sl8 := sl8.mono hm'); (try (have hq0 : hm' = Mem.le_refl _ := rfl; clear hq0 hm'))) | ((with_reducible first | apply AtM1.cr | apply AtQ.cr | apply At.cr); exact rfl; exact rfl; exact fun _ hmm => k1 p7 c7 p8 c8 (sl7.mono hmm) (sl8.mono hmm); exact tk; kernel_rfl) | ((with_reducible first | apply AtM1.cr | apply AtQ.cr | apply At.cr); exact rfl; exact rfl; exact fun _ hmm => k2 p5 c5 p6 c6 (sl5.mono hmm) (sl6.mono hmm); exact tk; kernel_rfl) | ((with_reducible apply At.alloc (d := 8)); exact rfl; exact rfl; intro b8) | (refine sp ?_ ?_ <;> (intro hc; (try simp only [hcs, reduceCtorEq] at hc); (try (exfalso; first | (first | omega | exact absurd rfl hc) | contradiction | omega | exact absurd rfl hc | exact absurd (by decide) hc))))))
          all_goals ((with_reducible apply At.retB1 (B := [])); exact rfl; exact rfl; exact ml; exact kp; exact ⟨rfl, rfl⟩)
    · refine Ct.enterV (by rfl) Try.func3 rfl Try.ntmps3 rfl (fun w0 Rest => ?_)
      (repeat' (first | refine ss ?_ | refine sM ?_ | ((with_reducible first | apply AtM1.cr | apply AtQ.cr | apply At.cr); exact rfl; exact rfl; exact fun _ hmm => hsm _ hmm; exact tk; kernel_rfl) | ((with_reducible first | apply AtM1.callp | apply AtQ.callp | apply At.callp); kernel_rfl; exact rfl; exact rfl; exact hlv) | ((with_reducible apply At.alloc (d := 8)); exact rfl; exact rfl; intro b8) | (refine sp ?_ ?_ <;> (intro hc; (try simp only [hcs, reduceCtorEq] at hc); (try (exfalso; first | omega | contradiction | omega | exact absurd rfl hc | exact absurd (by decide) hc))))))
      all_goals ((with_reducible apply At.retB1 (B := [])); exact rfl; exact rfl; exact ml; exact kp; exact ⟨rfl, rfl⟩)
  · rw [if_neg hf] at hsm
    refine Ct.enterV (by rfl) Try.func3 rfl Try.ntmps3 rfl (fun w0 Rest => ?_)
    (repeat' (first | refine ss ?_ | refine sM ?_ | ((with_reducible first | apply AtM1.cr | apply AtQ.cr | apply At.cr); exact rfl; exact rfl; exact fun _ hmm => hsm _ hmm; exact tk; kernel_rfl) | ((with_reducible first | apply AtM1.callp | apply AtQ.callp | apply At.callp); kernel_rfl; exact rfl; exact rfl; exact hlv) | ((with_reducible apply At.alloc (d := 8)); exact rfl; exact rfl; intro b8) | (refine sp ?_ ?_ <;> (intro hc; (try simp only [hcs, reduceCtorEq] at hc); (try (exfalso; first | omega | contradiction | omega | exact absurd rfl hc | exact absurd (by decide) hc))))))
    all_goals ((with_reducible apply At.retB1 (B := [])); exact rfl; exact rfl; exact ml; exact kp; exact ⟨rfl, rfl⟩)
end Mt
end Go.Proofs.Ytkknmdoofofakaa
